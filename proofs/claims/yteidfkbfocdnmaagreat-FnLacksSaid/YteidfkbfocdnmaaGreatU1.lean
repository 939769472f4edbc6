/- What a right state has, by what lies in it. No condition. -/
import Derived.Test.YteidfkbfocdnmaaGreatD
import Derived.Test.YteidfkbfocdnmaaGreatE76
import Derived.Test.YteidfkbfocdnmaaGreatE56
import Derived.Test.YteidfkbfocdnmaaGreatE70
namespace Am
open Go
set_option linter.unusedSimpArgs false
set_option linter.unusedVariables false

structure SOK (s : GState) : Prop where
  k : knowOk s.know = true
  t1 : s.tallies.length ≤ 120
  t2 : ∀ t, t ∈ s.tallies → tallyOk t = true
  t3 : s.tallies.Pairwise fun a b => tallyLt a b = true
  l1 : s.lives.length ≤ 120
  l2 : ∀ x, x ∈ s.lives → knows s.know x.dot = true ∧ liveOk x = true
  l3 : s.lives.Pairwise fun a b => liveLt a b = true
  c1 : s.cs.length ≤ 120
  c2 : ∀ c, c ∈ s.cs → knows s.know c.dot = true ∧ cellOk' c = true
  c3 : s.cs.Pairwise fun a b => cellLt a b = true
  c4 : ∀ c, c ∈ s.cs → c.ref = zeroDot ∨ ∃ y, y ∈ s.cs ∧ y.dot = c.ref ∧ y.obj = c.obj ∧ y.time < c.time

theorem idx_cases {α : Type} [Cel α] (p : α → Bool) (xs : List α) : (∃ i : Nat, i < xs.length ∧ p (nth xs i) = true ∧ (∀ j : Nat, j < i → p (nth xs j) = false) ∧ idx p xs = i) ∨ ((∀ j : Nat, j < xs.length → p (nth xs j) = false) ∧ idx p xs = -1) := by
  have key : ∀ n : Nat, n ≤ xs.length → (∃ i : Nat, i < n ∧ p (nth xs i) = true ∧ ∀ j : Nat, j < i → p (nth xs j) = false) ∨ ∀ j : Nat, j < n → p (nth xs j) = false := by
    intro n
    induction n with
    | zero => intro _; right; intro j hj; omega
    | succ n ih =>
      intro hn
      rcases ih (by omega) with ⟨i, h1, h2, h3⟩ | h
      · exact Or.inl ⟨i, by omega, h2, h3⟩
      · cases e : p (nth xs n)
        · right; intro j hj
          by_cases e2 : j = n
          · subst e2; exact e
          · exact h j (by omega)
        · exact Or.inl ⟨n, by omega, e, h⟩
  rcases key xs.length (Nat.le_refl _) with ⟨i, h1, h2, h3⟩ | h
  · exact Or.inl ⟨i, h1, h2, h3, idx_here h1 h3 h2⟩
  · exact Or.inr ⟨h, idx_none h⟩
theorem cells_one {l : List GCell} (h : l.Pairwise fun a b => cellLt a b = true) {x y : GCell} (hx : x ∈ l) (hy : y ∈ l) (e : x.dot = y.dot) : x = y := by
  obtain ⟨i, hi, rfl⟩ := mem_nth hx
  obtain ⟨j, hj, rfl⟩ := mem_nth hy
  have irr : ∀ d : GDot, before d d = false := fun d => by simp [before]
  rcases Nat.lt_trichotomy i j with h1 | h1 | h1
  · have := pw_nth h h1 hj
    rw [cellLt, e, irr] at this; cases this
  · rw [h1]
  · have := pw_nth h h1 hi
    rw [cellLt, e, irr] at this; cases this
theorem cellAt_of {l : List GCell} (h : l.Pairwise fun a b => cellLt a b = true) {y : GCell} (hy : y ∈ l) : 0 ≤ cellAt l y.dot ∧ nth l (cellAt l y.dot).toNat = y := by
  obtain ⟨i, hi, e⟩ := mem_nth hy
  unfold cellAt
  rcases idx_cases (dotIs y.dot) l with ⟨j, hj, h1, _, c1⟩ | ⟨h1, c1⟩
  · have hd : (nth l j).dot = y.dot := by simpa [dotIs] using h1
    refine ⟨by omega, ?_⟩
    rw [c1]
    exact cells_one h (nth_mem hj) hy hd
  · exfalso
    have := h1 i hi
    rw [dotIs, e] at this; simp at this
theorem refGood_iff {l : List GCell} (h : l.Pairwise fun a b => cellLt a b = true) (c : GCell) : refGood l c = true ↔ ∃ y, y ∈ l ∧ y.dot = c.ref ∧ y.obj = c.obj ∧ y.time < c.time := by
  simp only [refGood, Bool.and_eq_true, decide_eq_true_eq]
  constructor
  · rintro ⟨⟨h1, h2⟩, h3⟩
    unfold cellAt at h1 h2 h3
    rcases idx_cases (dotIs c.ref) l with ⟨j, hj, h4, _, c1⟩ | ⟨_, c1⟩
    · rw [c1] at h2 h3
      exact ⟨_, nth_mem hj, by simpa [dotIs] using h4, h2, h3⟩
    · omega
  · rintro ⟨y, h1, h2, h3, h4⟩
    obtain ⟨q1, q2⟩ := cellAt_of h h1
    rw [h2] at q1 q2
    rw [q2]
    exact ⟨⟨q1, h3⟩, h4⟩
theorem refAt_iff {l : List GCell} (h : l.Pairwise fun a b => cellLt a b = true) (i : Nat) : refAt l i = true ↔ (nth l i).ref = zeroDot ∨ ∃ y, y ∈ l ∧ y.dot = (nth l i).ref ∧ y.obj = (nth l i).obj ∧ y.time < (nth l i).time := by
  rw [refAt, Bool.or_eq_true, refGood_iff h]
  simp only [Bool.and_eq_true, beq_iff_eq, GDot.ext_iff, zeroDot]
theorem sok_of {s : GState} (h : stateOk s = true) : SOK s := by
  have hl := stateOk_len h
  have ht3 := stateOk_tallies h
  obtain ⟨hl3, hl2⟩ := stateOk_lives h
  have hc3 := stateOk_cells h
  simp only [stateOk, talliesOk, livKsOk, celKsOk, Bool.and_eq_true] at h
  obtain ⟨⟨⟨⟨h1, _, h2⟩, _, h3⟩, _, h4⟩, h5⟩ := h
  have a2 := allB_iff.1 h2
  have a3 := allB_iff.1 h3
  have a4 := allB_iff.1 h4
  have a5 := allB_iff.1 h5
  refine ⟨h1, hl.1, fun t ht => ?_, ht3, hl.2.1, fun x hx => ?_, hl3, hl.2.2, fun c hc => ?_, hc3, fun c hc => ?_⟩
  · obtain ⟨i, hi, rfl⟩ := mem_nth ht
    have := a2 i hi
    simp only [talAt, Bool.and_eq_true] at this
    exact this.1
  · obtain ⟨i, hi, rfl⟩ := mem_nth hx
    have := a3 i hi
    simp only [livKAt, Bool.and_eq_true] at this
    exact this.1
  · obtain ⟨i, hi, rfl⟩ := mem_nth hc
    have := a4 i hi
    simp only [celKAt, Bool.and_eq_true] at this
    exact this.1
  · obtain ⟨i, hi, rfl⟩ := mem_nth hc
    exact (refAt_iff hc3 i).1 (a5 i hi)
theorem of_sok {s : GState} (h : SOK s) : stateOk s = true := by
  simp only [stateOk, talliesOk, livKsOk, celKsOk, Bool.and_eq_true, decide_eq_true_eq]
  have cons : ∀ {α : Type} [Cel α] {l : List α} {lt : α → α → Bool}, l.Pairwise (fun a b => lt a b = true) → ∀ i : Nat, i < l.length → i = 0 ∨ lt (nth l (i - 1)) (nth l i) = true := by
    intro α _ l lt hp i hi
    rcases Nat.eq_zero_or_pos i with h0 | h0
    · exact .inl h0
    · exact .inr (pw_nth hp (by omega) hi)
  refine ⟨⟨⟨⟨h.k, h.t1, allB_iff.2 fun i hi => ?_⟩, h.l1, allB_iff.2 fun i hi => ?_⟩, h.c1, allB_iff.2 fun i hi => ?_⟩, allB_iff.2 fun i hi => ?_⟩
  · simp only [talAt, Bool.and_eq_true, Bool.or_eq_true, decide_eq_true_eq]
    exact ⟨h.t2 _ (nth_mem hi), cons h.t3 i hi⟩
  · simp only [livKAt, Bool.and_eq_true, Bool.or_eq_true, decide_eq_true_eq]
    exact ⟨h.l2 _ (nth_mem hi), cons h.l3 i hi⟩
  · simp only [celKAt, Bool.and_eq_true, Bool.or_eq_true, decide_eq_true_eq]
    exact ⟨h.c2 _ (nth_mem hi), cons h.c3 i hi⟩
  · exact (refAt_iff h.c3 i).2 (h.c4 _ (nth_mem hi))
end Am
namespace Am
open Go
set_option linter.unusedSimpArgs false
set_option linter.unusedVariables false

theorem nth_setL {α : Type} [Cel α] (m : List α) (i x : Nat) (v : α) : nth (m.set i v) x = if x = i ∧ i < m.length then v else nth m x := by
  unfold nth
  rw [List.getD_eq_getElem?_getD, List.getD_eq_getElem?_getD, List.getElem?_set]
  by_cases e : i = x
  · subst e
    by_cases h : i < m.length
    · simp [h]
    · simp [h]
  · have e' : ¬ x = i := fun h => e h.symm
    simp [e, e']
/-- What an act that is done has. -/
structure Done (s : GState) (a : GAct) : Prop where
  s0 : SOK s
  a0 : actOk a = true
  n : knows s.know a.dot = false
  ki : knowIn a.knew s.know = true
  r : actRefOk s a = true
  m : tooMany (doneAct s a) = false
theorem done_of {s : GState} {a : GAct} (h : (doAct s a).2 = 0) : Done s a ∧ (doAct s a).1 = doneAct s a := by
  unfold doAct at h ⊢
  split at h <;> rename_i h1 <;> try (simp at h)
  split at h <;> rename_i h2 <;> try (simp at h)
  split at h <;> rename_i h3 <;> try (simp at h)
  split at h <;> rename_i h4 <;> try (simp at h)
  split at h <;> rename_i h5 <;> try (simp at h)
  split at h <;> rename_i h6 <;> try (simp at h)
  rw [if_neg h1, if_neg h2, if_neg h3, if_neg h4, if_neg h5, if_neg h6]
  simp only [Bool.not_eq_false, Bool.not_eq_true] at h1 h2 h3 h4 h5 h6
  exact ⟨⟨sok_of h1, h2, h3, h4, h5, h6⟩, rfl⟩

theorem dot_of {a : GAct} (h : actOk a = true) : 0 ≤ a.dot.rep ∧ a.dot.rep ≤ 2 ∧ 1 ≤ a.dot.seq ∧ a.dot.seq ≤ 1000 := by
  simp only [actOk, dotOk, spIn, Bool.and_eq_true, decide_eq_true_eq] at h
  omega
theorem seq_next {s : GState} {a : GAct} (h : Done s a) : a.dot.seq = nth s.know a.dot.rep.toNat + 1 ∧ a.dot.rep.toNat < s.know.length := by
  have hd := dot_of h.a0
  have hk := h.s0.k
  have hkk := hk
  simp only [knowOk, Bool.and_eq_true, decide_eq_true_eq] at hkk
  have ha := h.a0
  simp only [actOk, Bool.and_eq_true, beq_iff_eq] at ha
  have hi := h.ki
  simp only [knowIn, Bool.and_eq_true, decide_eq_true_eq] at hi
  have hkn := hi.1.1
  simp only [knowOk, Bool.and_eq_true, decide_eq_true_eq] at hkn
  have h1 := hi.2 a.dot.rep.toNat (by omega)
  have h2 := ha.1.1.1.2
  have hdo : dotOk a.dot = true := ha.1.1.1.1.1
  have hn := h.n
  rw [knows, hk, hdo] at hn
  simp only [Bool.and_true, Bool.true_and, decide_eq_false_iff_not] at hn
  omega
theorem know_next {s : GState} {a : GAct} (h : Done s a) : knowOk (s.know.set a.dot.rep.toNat a.dot.seq) = true := by
  have hd := dot_of h.a0
  have hk := h.s0.k
  simp only [knowOk, Bool.and_eq_true, decide_eq_true_eq, List.length_set] at hk ⊢
  refine ⟨hk.1, fun j hj => ?_⟩
  rw [nth_setL]
  split
  · omega
  · exact hk.2 j hj
theorem knows_next {s : GState} {a : GAct} (h : Done s a) {d : GDot} (hd : knows s.know d = true) : knows (s.know.set a.dot.rep.toNat a.dot.seq) d = true := by
  obtain ⟨h1, h2⟩ := seq_next h
  simp only [knows, Bool.and_eq_true, decide_eq_true_eq] at hd ⊢
  refine ⟨⟨know_next h, hd.1.2⟩, ?_⟩
  rw [nth_setL]
  split
  · rename_i e
    have := hd.2
    rw [e.1] at this
    omega
  · exact hd.2
theorem knows_self {s : GState} {a : GAct} (h : Done s a) : knows (s.know.set a.dot.rep.toNat a.dot.seq) a.dot = true := by
  obtain ⟨h1, h2⟩ := seq_next h
  have ha := h.a0
  simp only [actOk, Bool.and_eq_true] at ha
  simp only [knows, Bool.and_eq_true, decide_eq_true_eq]
  refine ⟨⟨know_next h, ha.1.1.1.1.1⟩, ?_⟩
  rw [nth_setL, if_pos ⟨rfl, h2⟩]
  exact Int.le_refl _
end Am
namespace Am
open Go
set_option linter.unusedSimpArgs false
set_option linter.unusedVariables false

theorem plain_of {a : GAct} (h : actOk a = true) : 1 ≤ a.kind ∧ a.kind ≤ 7 ∧ nameOk a.obj = true ∧ (2 ≤ a.kind → a.kind ≤ 5 → nameOk a.key = true) ∧ 0 ≤ a.val ∧ a.val ≤ 999999 ∧ 1 ≤ a.time ∧ a.time ≤ 10000 ∧ (a.kind ≠ 1 → a.kind ≠ 4 → a.kind ≠ 6 → a.val = 0) := by
  simp only [actOk, plain, Bool.and_eq_true] at h
  obtain ⟨⟨⟨_, ht⟩, ⟨⟨hk, ho⟩, hy⟩, hv⟩, _⟩ := h
  simp only [spIn, Bool.and_eq_true, decide_eq_true_eq] at ht hk
  refine ⟨hk.1, hk.2, ho, fun h2 h5 => ?_, ?_, ?_, ht.1, ht.2, fun n1 n4 n6 => ?_⟩
  · have : spIn a.kind 2 5 = true := by simp [spIn, h2, h5]
    rw [if_pos this] at hy; exact hy
  · simp only [spIn, Bool.or_eq_true, Bool.and_eq_true, beq_iff_eq, decide_eq_true_eq] at hv
    rcases hv with h | h <;> omega
  · simp only [spIn, Bool.or_eq_true, Bool.and_eq_true, beq_iff_eq, decide_eq_true_eq] at hv
    rcases hv with h | h <;> omega
  · simp only [valued, Bool.or_eq_true, Bool.and_eq_true, beq_iff_eq] at hv
    rcases hv with h | h
    · exact h
    · rcases h.1 with (h | h) | h
      · exact absurd h n1
      · exact absurd h n4
      · exact absurd h n6

theorem ins_live {s : GState} {a : GAct} (h : Done s a) {l : List GLive} (hl : l.Pairwise fun x y => liveLt x y = true) (hk : ∀ x, x ∈ l → knows s.know x.dot = true) (x : GLive) (hx : x.dot = a.dot) : (insF liveLt x l).Pairwise fun x y => liveLt x y = true := by
  refine insF_sorted liveLt_Lt hl fun y hy hf => ?_
  refine before_ne (fun e => ?_) hf
  have := hk y hy
  rw [← e, hx, h.n] at this
  cases this
theorem ins_cell {s : GState} {a : GAct} (h : Done s a) {l : List GCell} (hl : l.Pairwise fun x y => cellLt x y = true) (hk : ∀ x, x ∈ l → knows s.know x.dot = true) (x : GCell) (hx : x.dot = a.dot) : (insF cellLt x l).Pairwise fun x y => cellLt x y = true := by
  refine insF_sorted cellLt_Lt hl fun y hy hf => ?_
  refine before_ne (fun e => ?_) hf
  have := hk y hy
  rw [← e, hx, h.n] at this
  cases this
theorem insF_mem {α : Type} [Cel α] {lt : α → α → Bool} {x y : α} {l : List α} : y ∈ insF lt x l ↔ y = x ∨ y ∈ l := by
  rw [(insF_perm (lt := lt) x l).mem_iff, List.mem_cons]
theorem clear_sub (m : Bool) (o k : ByteArray) (kn : List Int) (l : List GLive) : (clearK m o k kn l l.length).Sublist l := by
  rw [clearK, filK_filter _ _ _ (Nat.le_refl _), List.take_length]
  exact List.filter_sublist

theorem addT_cases (l : List GTally) (o : ByteArray) (r v : Int) : (∃ i : Nat, i < l.length ∧ (nth l i).obj = o ∧ (nth l i).rep = r ∧ addT l o r v = l.set i ⟨o, r, (IntKind.i64.wrap ((nth l i).sum + v)).tmod 1000000⟩) ∨ ((∀ t, t ∈ l → ¬ (t.obj = o ∧ t.rep = r)) ∧ addT l o r v = insF tallyLt ⟨o, r, v⟩ l) := by
  unfold addT
  rcases idx_cases (talIs o r) l with ⟨i, hi, h1, _, c1⟩ | ⟨h1, c1⟩
  · left
    simp only [talIs, Bool.and_eq_true, decide_eq_true_eq, beq_iff_eq] at h1
    refine ⟨i, hi, h1.1, h1.2, ?_⟩
    rw [c1, if_pos (by omega), Int.toNat_natCast]
  · right
    refine ⟨fun t ht => ?_, by rw [c1, if_neg (by omega)]⟩
    obtain ⟨i, hi, rfl⟩ := mem_nth ht
    have := h1 i hi
    simp only [talIs, Bool.and_eq_false_iff, decide_eq_false_iff_not, beq_eq_false_iff_ne] at this
    rintro ⟨e1, e2⟩
    rcases this with h | h
    · exact h e1
    · exact h e2
theorem set_mem {α : Type} [Cel α] {l : List α} {i : Nat} {y x : α} (h : x ∈ l.set i y) : x = y ∨ x ∈ l := by
  rcases List.mem_or_eq_of_mem_set h with h | h
  · exact .inr h
  · exact .inl h

theorem done_sok {s : GState} {a : GAct} (h : Done s a) : SOK (doneAct s a) := by
  have S := h.s0
  obtain ⟨k1, k7, ho, hky, v0, v1, t0, t1, vz⟩ := plain_of h.a0
  obtain ⟨r0, r1, s1, s2⟩ := dot_of h.a0
  have hm := h.m
  have hkn := fun d hd => knows_next h (d := d) hd
  have hself := knows_self h
  simp only [tooMany, Bool.or_eq_false_iff, decide_eq_false_iff_not] at hm
  have lv : ∀ x, x ∈ s.lives → knows (s.know.set a.dot.rep.toNat a.dot.seq) x.dot = true ∧ liveOk x = true := fun x hx => ⟨hkn _ (S.l2 x hx).1, (S.l2 x hx).2⟩
  have cv : ∀ x, x ∈ s.cs → knows (s.know.set a.dot.rep.toNat a.dot.seq) x.dot = true ∧ cellOk' x = true := fun x hx => ⟨hkn _ (S.c2 x hx).1, (S.c2 x hx).2⟩
  have sub := fun m => clear_sub m a.obj a.key a.knew s.lives
  unfold doneAct at hm ⊢
  by_cases e1 : a.kind = 1
  · simp only [e1, if_true] at hm ⊢
    refine ⟨know_next h, by simpa using Nat.not_lt.1 hm.1, ?_, ?_, S.l1, lv, S.l3, S.c1, cv, S.c3, S.c4⟩
    · rcases addT_cases s.tallies a.obj a.dot.rep a.val with ⟨i, hi, q1, q2, e⟩ | ⟨q, e⟩
      · rw [e]
        intro t ht
        rcases set_mem ht with rfl | ht
        · have := S.t2 _ (nth_mem hi)
          simp only [tallyOk, spIn, Bool.and_eq_true, decide_eq_true_eq] at this ⊢
          rw [wrap64 (by omega) (by omega)]
          have hn := Int.tmod_nonneg 1000000 (show 0 ≤ (nth s.tallies i).sum + a.val by omega)
          have hlt := Int.tmod_lt_of_pos ((nth s.tallies i).sum + a.val) (show (0 : Int) < 1000000 by omega)
          exact ⟨⟨ho, by omega, by omega⟩, hn, by omega⟩
        · exact S.t2 t ht
      · rw [e]
        intro t ht
        rcases insF_mem.1 ht with rfl | ht
        · simp only [tallyOk, spIn, Bool.and_eq_true, decide_eq_true_eq]
          exact ⟨⟨ho, by omega, by omega⟩, v0, v1⟩
        · exact S.t2 t ht
    · rcases addT_cases s.tallies a.obj a.dot.rep a.val with ⟨i, hi, q1, q2, e⟩ | ⟨q, e⟩
      · rw [e]
        refine pw_of_nth fun x y hxy hy => ?_
        rw [List.length_set] at hy
        have hp := pw_nth S.t3 hxy hy
        rw [nth_setL, nth_setL]
        by_cases ex : x = i
        · subst ex
          rw [if_pos ⟨rfl, hi⟩, if_neg (by omega)]
          simpa [tallyLt, q1, q2] using hp
        · rw [if_neg (by omega)]
          by_cases ey : y = i
          · subst ey
            rw [if_pos ⟨rfl, hi⟩]
            simpa [tallyLt, q1, q2] using hp
          · rw [if_neg (by omega)]; exact hp
      · rw [e]
        refine insF_sorted tallyLt_Lt S.t3 fun y hy hf => ?_
        cases hg : tallyLt y ⟨a.obj, a.dot.rep, a.val⟩
        · have := tallyLt_tri hf hg
          exact absurd ⟨this.1.symm, this.2.symm⟩ (q y hy)
        · rfl
  simp only [e1, if_false] at hm ⊢
  by_cases e2 : a.kind = 2
  · simp only [e2, if_true] at hm ⊢
    refine ⟨know_next h, S.t1, S.t2, S.t3, by simpa using Nat.not_lt.1 hm.2.1, fun x hx => ?_, ins_live h S.l3 (fun x hx => (S.l2 x hx).1) _ rfl, S.c1, cv, S.c3, S.c4⟩
    rcases insF_mem.1 hx with rfl | hx
    · exact ⟨hself, by simp [liveOk, ho, hky (by omega) (by omega), spIn]⟩
    · exact lv x hx
  simp only [e2, if_false] at hm ⊢
  by_cases e3 : a.kind = 3
  · simp only [e3, if_true] at hm ⊢
    exact ⟨know_next h, S.t1, S.t2, S.t3, Nat.le_trans (sub false).length_le S.l1, fun x hx => lv x ((sub false).subset hx), S.l3.sublist (sub false), S.c1, cv, S.c3, S.c4⟩
  simp only [e3, if_false] at hm ⊢
  by_cases e4 : a.kind = 4
  · simp only [e4, if_true] at hm ⊢
    refine ⟨know_next h, S.t1, S.t2, S.t3, by simpa using Nat.not_lt.1 hm.2.1, fun x hx => ?_, ins_live h (S.l3.sublist (sub true)) (fun x hx => (S.l2 x ((sub true).subset hx)).1) _ rfl, S.c1, cv, S.c3, S.c4⟩
    rcases insF_mem.1 hx with rfl | hx
    · exact ⟨hself, by simp [liveOk, ho, hky (by omega) (by omega), spIn, v0, v1]⟩
    · exact lv x ((sub true).subset hx)
  simp only [e4, if_false] at hm ⊢
  by_cases e5 : a.kind = 5
  · simp only [e5, if_true] at hm ⊢
    exact ⟨know_next h, S.t1, S.t2, S.t3, Nat.le_trans (sub true).length_le S.l1, fun x hx => lv x ((sub true).subset hx), S.l3.sublist (sub true), S.c1, cv, S.c3, S.c4⟩
  simp only [e5, if_false] at hm ⊢
  by_cases e6 : a.kind = 6
  · simp only [e6, if_true] at hm ⊢
    refine ⟨know_next h, S.t1, S.t2, S.t3, S.l1, lv, S.l3, by simpa using Nat.not_lt.1 hm.2.2, fun x hx => ?_, ins_cell h S.c3 (fun x hx => (S.c2 x hx).1) _ rfl, fun c hc => ?_⟩
    · rcases insF_mem.1 hx with rfl | hx
      · exact ⟨hself, by simp [cellOk', ho, spIn, v0, v1, t0, t1]⟩
      · exact cv x hx
    · rcases insF_mem.1 hc with rfl | hc
      · by_cases hz : a.ref = zeroDot
        · exact .inl hz
        · have hr := h.r
          rw [actRefOk, if_pos (.inr ⟨e6, hz⟩)] at hr
          simp only [Bool.and_eq_true, Bool.or_eq_true, decide_eq_true_eq, beq_iff_eq] at hr
          obtain ⟨h1, h2, h3⟩ := hr
          rcases idx_cases (dotIs a.ref) s.cs with ⟨j, hj, q1, _, c1⟩ | ⟨_, c1⟩
          · have ej : refAtI s a = j := by unfold refAtI cellAt; rw [c1]; rfl
            rw [ej] at h2 h3
            refine .inr ⟨_, insF_mem.2 (.inr (nth_mem hj)), by simpa [dotIs] using q1, h2, ?_⟩
            rcases h3 with h3 | h3
            · omega
            · exact h3
          · unfold cellAt at h1; omega
      · rcases S.c4 c hc with hz | ⟨y, hy, q⟩
        · exact .inl hz
        · exact .inr ⟨y, insF_mem.2 (.inr hy), q⟩
  simp only [e6, if_false] at hm ⊢
  have e7 : a.kind = 7 := by omega
  have hr := h.r
  rw [actRefOk, if_pos (.inl e7)] at hr
  simp only [Bool.and_eq_true, decide_eq_true_eq] at hr
  have hi : refAtI s a < s.cs.length := by
    have h1 := hr.1
    unfold refAtI
    rcases cellAt_cases s.cs a.ref with c1 | ⟨j, hj, c1⟩
    · omega
    · omega
  generalize refAtI s a = i at hi hm ⊢
  have hback : ∀ c, c ∈ s.cs.set i { nth s.cs i with gone := true } → ∃ c0, c0 ∈ s.cs ∧ c.dot = c0.dot ∧ c.obj = c0.obj ∧ c.time = c0.time ∧ c.ref = c0.ref ∧ c.val = c0.val := by
    intro c hc
    rcases set_mem hc with rfl | hc
    · exact ⟨_, nth_mem hi, rfl, rfl, rfl, rfl, rfl⟩
    · exact ⟨c, hc, rfl, rfl, rfl, rfl, rfl⟩
  have hforth : ∀ c0, c0 ∈ s.cs → ∃ c, c ∈ s.cs.set i { nth s.cs i with gone := true } ∧ c.dot = c0.dot ∧ c.obj = c0.obj ∧ c.time = c0.time := by
    intro c0 hc
    obtain ⟨j, hj, rfl⟩ := mem_nth hc
    have hm2 : nth (s.cs.set i { nth s.cs i with gone := true }) j ∈ s.cs.set i { nth s.cs i with gone := true } := nth_mem (by rw [List.length_set]; exact hj)
    refine ⟨_, hm2, ?_⟩
    rw [nth_setL]
    split
    · rename_i e
      obtain ⟨rfl, _⟩ := e
      exact ⟨rfl, rfl, rfl⟩
    · exact ⟨rfl, rfl, rfl⟩
  refine ⟨know_next h, S.t1, S.t2, S.t3, S.l1, lv, S.l3, by rw [List.length_set]; exact S.c1, fun c hc => ?_, pw_of_nth fun x y hxy hy => ?_, fun c hc => ?_⟩
  · obtain ⟨c0, h0, d1, d2, d3, d4, d5⟩ := hback c hc
    have := cv c0 h0
    refine ⟨by rw [d1]; exact this.1, ?_⟩
    have h2 := this.2
    simp only [cellOk'] at h2 ⊢
    rw [d2, d3, d5]; exact h2
  · rw [List.length_set] at hy
    have hp := pw_nth S.c3 hxy hy
    rw [nth_setL, nth_setL]
    by_cases ex : x = i
    · subst ex
      rw [if_pos ⟨rfl, hi⟩, if_neg (by omega)]
      exact hp
    · rw [if_neg (by omega)]
      by_cases ey : y = i
      · subst ey
        rw [if_pos ⟨rfl, hi⟩]
        exact hp
      · rw [if_neg (by omega)]; exact hp
  · obtain ⟨c0, h0, d1, d2, d3, d4, d5⟩ := hback c hc
    rcases S.c4 c0 h0 with hz | ⟨y, hy, q1, q2, q3⟩
    · exact .inl (by rw [d4]; exact hz)
    · obtain ⟨y', hy', w1, w2, w3⟩ := hforth y hy
      exact .inr ⟨y', hy', by rw [w1, q1, d4], by rw [w2, q2, d2], by rw [w3, d3]; exact q3⟩
end Am
namespace Am
open Go
set_option linter.unusedSimpArgs false
set_option linter.unusedVariables false

theorem tallyLt_self (t : GTally) : tallyLt t t = false := by simp [tallyLt, strLt_self]
/-- The empty state is right. -/
theorem stateNew_sok : SOK (⟨[0, 0, 0], [], [], []⟩ : GState) := by
  refine ⟨by decide, by simp, by simp, by simp, by simp, by simp, by simp, by simp, by simp, by simp, by simp⟩
end Am
namespace Am
open Go
set_option linter.unusedSimpArgs false
set_option linter.unusedVariables false

theorem doneAct_know (s : GState) (a : GAct) : (doneAct s a).know = s.know.set a.dot.rep.toNat a.dot.seq := by
  unfold doneAct
  simp only
  repeat' split
  all_goals rfl
end Am
namespace Am
open Go
set_option linter.unusedSimpArgs false
set_option linter.unusedVariables false

/-- What counts on a name there. -/
def counts (o : ByteArray) (r : Int) (a : GAct) : Bool := decide (a.kind = 1 ∧ a.obj = o ∧ a.dot.rep = r)
def sumV (o : ByteArray) (r : Int) : List GAct → Int
  | [] => 0
  | a :: D => if counts o r a then a.val + sumV o r D else sumV o r D
theorem sumV_perm {o : ByteArray} {r : Int} {D D' : List GAct} (h : D.Perm D') : sumV o r D = sumV o r D' := by
  induction h with
  | nil => rfl
  | cons a _ ih => simp only [sumV, ih]
  | swap a b _ => simp only [sumV]; split <;> split <;> omega
  | trans _ _ ih1 ih2 => rw [ih1, ih2]
theorem sumV_nonneg {o : ByteArray} {r : Int} : ∀ {D : List GAct}, (∀ a, a ∈ D → 0 ≤ a.val) → 0 ≤ sumV o r D
  | [], _ => Int.le_refl _
  | a :: D, h => by
    have h1 := sumV_nonneg (o := o) (r := r) (D := D) (fun x hx => h x (by simp [hx]))
    have h2 := h a (by simp)
    rw [sumV]; split <;> omega
/-- What an act puts among the lives. -/
def puts (a : GAct) (x : GLive) : Prop := (a.kind = 2 ∧ x = ⟨false, a.obj, a.key, 0, a.dot⟩) ∨ (a.kind = 4 ∧ x = ⟨true, a.obj, a.key, a.val, a.dot⟩)
/-- What an act takes out. -/
def takes (y : GAct) (x : GLive) : Prop := x.obj = y.obj ∧ x.key = y.key ∧ knows y.knew x.dot = true ∧ ((y.kind = 3 ∧ x.map = false) ∨ ((y.kind = 4 ∨ y.kind = 5) ∧ x.map = true))
def celOf (a : GAct) (g : Bool) : GCell := ⟨a.obj, a.dot, a.time, a.ref, a.val, g⟩
def isCut (D : List GAct) (d : GDot) : Prop := ∃ y, y ∈ D ∧ y.kind = 7 ∧ y.ref = d

structure Canon (D : List GAct) (s : GState) : Prop where
  sok : SOK s
  know : ∀ d, knows s.know d = true ↔ ∃ a, a ∈ D ∧ a.dot = d
  tal : ∀ t : GTally, t ∈ s.tallies ↔ (∃ a, a ∈ D ∧ counts t.obj t.rep a = true) ∧ t.sum = sumV t.obj t.rep D % 1000000
  liv : ∀ x : GLive, x ∈ s.lives ↔ (∃ a, a ∈ D ∧ puts a x) ∧ ¬ ∃ y, y ∈ D ∧ takes y x
  cel : ∀ c : GCell, c ∈ s.cs ↔ ∃ a, a ∈ D ∧ a.kind = 6 ∧ c = celOf a c.gone ∧ (c.gone = true ↔ isCut D a.dot)
  acts : ∀ a, a ∈ D → actOk a = true ∧ knowIn a.knew s.know = true
  nod : (D.map (·.dot)).Nodup

theorem know_ext {k k' : List Int} (h : knowOk k = true) (h' : knowOk k' = true) (e : ∀ d, knows k d = true ↔ knows k' d = true) : k = k' := by
  have hk := h
  have hk' := h'
  simp only [knowOk, Bool.and_eq_true, decide_eq_true_eq] at hk hk'
  apply list_eq_of_nth (by omega)
  intro j hj
  have b := hk.2 j hj
  have b' := hk'.2 j (by omega)
  have ev : ∀ n : Int, 1 ≤ n → n ≤ 1000 → (n ≤ nth k j ↔ n ≤ nth k' j) := by
    intro n h1 h2
    have := e ⟨(j : Int), n⟩
    have hd : dotOk ⟨(j : Int), n⟩ = true := by simp only [dotOk, spIn, Bool.and_eq_true, decide_eq_true_eq]; omega
    simp only [knows, h, h', hd, Bool.true_and, decide_eq_true_eq, Int.toNat_natCast] at this
    exact this
  rcases Int.lt_trichotomy (nth k j) (nth k' j) with h1 | h1 | h1
  · have := (ev (nth k j + 1) (by omega) (by omega)).2 (by omega); omega
  · exact h1
  · have := (ev (nth k' j + 1) (by omega) (by omega)).1 (by omega); omega

theorem lt_uniq2 {α : Type} {lt : α → α → Bool} (hL : Lt lt) : ∀ {l1 l2 : List α}, l1.Pairwise (fun a b => lt a b = true) → l2.Pairwise (fun a b => lt a b = true) → (∀ x, x ∈ l1 ↔ x ∈ l2) → l1 = l2
  | [], [], _, _, _ => rfl
  | [], y :: r, _, _, h => by have := (h y).2 (by simp); simp at this
  | x :: r, [], _, _, h => by have := (h x).1 (by simp); simp at this
  | x :: r, y :: t, h1, h2, h => by
    obtain ⟨a1, a2⟩ := List.pairwise_cons.1 h1
    obtain ⟨b1, b2⟩ := List.pairwise_cons.1 h2
    have irr : ∀ z, lt z z = false := fun z => by
      cases hz : lt z z
      · rfl
      · have := hL.asym z z hz; rw [hz] at this; cases this
    have e : x = y := by
      rcases List.mem_cons.1 ((h x).1 (by simp)) with e | hx
      · exact e
      · rcases List.mem_cons.1 ((h y).2 (by simp)) with e | hy
        · exact e.symm
        · have := hL.asym _ _ (a1 y hy)
          rw [b1 x hx] at this
          cases this
    subst e
    rw [lt_uniq2 hL a2 b2 fun z => ?_]
    have hz := h z
    simp only [List.mem_cons] at hz
    constructor
    · intro hm
      rcases hz.1 (.inr hm) with e | hm'
      · subst e
        have := a1 z hm
        rw [irr] at this; cases this
      · exact hm'
    · intro hm
      rcases hz.2 (.inr hm) with e | hm'
      · subst e
        have := b1 z hm
        rw [irr] at this; cases this
      · exact hm'
/-- The same acts: the same state. -/
theorem canon_uniq {D D' : List GAct} {s s' : GState} (h : Canon D s) (h' : Canon D' s') (hp : D.Perm D') : s = s' := by
  have hm : ∀ a, a ∈ D ↔ a ∈ D' := fun a => hp.mem_iff
  have ek : s.know = s'.know := by
    refine know_ext h.sok.k h'.sok.k fun d => ?_
    rw [h.know, h'.know]
    simp only [hm]
  have et : s.tallies = s'.tallies := by
    refine lt_uniq2 tallyLt_Lt h.sok.t3 h'.sok.t3 fun t => ?_
    rw [h.tal, h'.tal, sumV_perm hp]
    simp only [hm]
  have el : s.lives = s'.lives := by
    refine lt_uniq2 liveLt_Lt h.sok.l3 h'.sok.l3 fun x => ?_
    rw [h.liv, h'.liv]
    simp only [hm]
  have ec : s.cs = s'.cs := by
    refine lt_uniq2 cellLt_Lt h.sok.c3 h'.sok.c3 fun c => ?_
    rw [h.cel, h'.cel]
    simp only [hm, isCut]
  exact GState.ext ek et el ec
theorem canon_new : Canon [] (⟨[0, 0, 0], [], [], []⟩ : GState) := by
  refine ⟨stateNew_sok, fun d => ?_, by simp, by simp, by simp, by simp, by simp⟩
  simp only [List.not_mem_nil, false_and, exists_false, iff_false, Bool.not_eq_true]
  cases hk : knows [0, 0, 0] d
  · rfl
  · exfalso
    simp only [knows, dotOk, spIn, Bool.and_eq_true, decide_eq_true_eq] at hk
    obtain ⟨⟨_, ⟨h1, h2⟩, h3, _⟩, h5⟩ := hk
    have : d.rep.toNat = 0 ∨ d.rep.toNat = 1 ∨ d.rep.toNat = 2 := by omega
    rcases this with e | e | e <;> rw [e] at h5 <;> simp [nth] at h5 <;> omega
end Am
namespace Am
open Go
set_option linter.unusedSimpArgs false
set_option linter.unusedVariables false

theorem knows_set {s : GState} {a : GAct} (h : Done s a) (d : GDot) : knows (s.know.set a.dot.rep.toNat a.dot.seq) d = true ↔ d = a.dot ∨ knows s.know d = true := by
  constructor
  · intro hd
    obtain ⟨h1, h2⟩ := seq_next h
    have hda := dot_of h.a0
    simp only [knows, Bool.and_eq_true, decide_eq_true_eq] at hd
    obtain ⟨⟨_, hdo⟩, hle⟩ := hd
    have hdo2 := hdo
    simp only [dotOk, spIn, Bool.and_eq_true, decide_eq_true_eq] at hdo2
    rw [nth_setL] at hle
    have hk := h.s0.k
    split at hle
    · rename_i e
      by_cases hs : d.seq = a.dot.seq
      · left
        have : d.rep = a.dot.rep := by omega
        exact GDot.ext this hs
      · right
        simp only [knows, Bool.and_eq_true, decide_eq_true_eq]
        refine ⟨⟨hk, hdo⟩, ?_⟩
        rw [e.1]; omega
    · right
      simp only [knows, Bool.and_eq_true, decide_eq_true_eq]
      exact ⟨⟨hk, hdo⟩, hle⟩
  · rintro (rfl | hd)
    · exact knows_self h
    · exact knows_next h hd
theorem knowIn_next {s : GState} {a : GAct} (h : Done s a) {k : List Int} (hk : knowIn k s.know = true) : knowIn k (s.know.set a.dot.rep.toNat a.dot.seq) = true := by
  have hn := know_next h
  obtain ⟨h1, h2⟩ := seq_next h
  simp only [knowIn, Bool.and_eq_true, decide_eq_true_eq] at hk ⊢
  refine ⟨⟨hk.1.1, hn⟩, fun j hj => ?_⟩
  have := hk.2 j hj
  rw [nth_setL]
  split
  · rename_i e
    rw [e.1] at this; rw [e.1]; omega
  · exact this
theorem knows_in {k k' : List Int} (h : knowIn k k' = true) {d : GDot} (hd : knows k d = true) : knows k' d = true := by
  simp only [knowIn, Bool.and_eq_true, decide_eq_true_eq] at h
  simp only [knows, Bool.and_eq_true, decide_eq_true_eq] at hd ⊢
  have hk := h.1.1
  simp only [knowOk, Bool.and_eq_true, decide_eq_true_eq] at hk
  have hdo := hd.1.2
  simp only [dotOk, spIn, Bool.and_eq_true, decide_eq_true_eq] at hdo
  exact ⟨⟨h.1.2, hd.1.2⟩, Int.le_trans hd.2 (h.2 _ (by omega))⟩
theorem knew_self {a : GAct} (h : actOk a = true) : knows a.knew a.dot = false := by
  simp only [actOk, Bool.and_eq_true, beq_iff_eq] at h
  have := h.1.1.1.2
  cases hk : knows a.knew a.dot
  · rfl
  · simp only [knows, Bool.and_eq_true, decide_eq_true_eq] at hk
    omega
theorem clear_mem {m : Bool} {o k : ByteArray} {kn : List Int} {l : List GLive} {x : GLive} : x ∈ clearK m o k kn l l.length ↔ x ∈ l ∧ ¬ (x.map = m ∧ x.obj = o ∧ x.key = k ∧ knows kn x.dot = true) := by
  rw [clearK, filK_filter _ _ _ (Nat.le_refl _), List.take_length, List.mem_filter]
  simp only [keepK, Bool.not_eq_true', Bool.and_eq_false_iff, beq_eq_false_iff_ne, decide_eq_false_iff_not, ne_eq, not_and, Bool.not_eq_true]
  constructor
  · rintro ⟨h1, h2⟩
    refine ⟨h1, fun e1 e2 e3 => ?_⟩
    rcases h2 with h | h | h | h
    · exact absurd e1 h
    · exact absurd e2 h
    · exact absurd e3 h
    · exact h
  · rintro ⟨h1, h2⟩
    refine ⟨h1, ?_⟩
    by_cases e1 : x.map = m
    · by_cases e2 : x.obj = o
      · by_cases e3 : x.key = k
        · exact .inr (.inr (.inr (h2 e1 e2 e3)))
        · exact .inr (.inr (.inl e3))
      · exact .inr (.inl e2)
    · exact .inl e1
theorem lives_next {s : GState} {a : GAct} (h : Done s a) (x : GLive) : x ∈ (doneAct s a).lives ↔ puts a x ∨ (x ∈ s.lives ∧ ¬ takes a x) := by
  obtain ⟨k1, k7, _⟩ := plain_of h.a0
  have hno : ∀ x, x ∈ s.lives → x.dot ≠ a.dot := fun x hx e => by
    have := (h.s0.l2 x hx).1
    rw [e, h.n] at this; cases this
  unfold doneAct puts takes
  by_cases e1 : a.kind = 1
  · simp [e1]
  by_cases e2 : a.kind = 2
  · simp only [e2]; simp [insF_mem]
  by_cases e3 : a.kind = 3
  · simp only [e3]; simp [clear_mem]; grind
  by_cases e4 : a.kind = 4
  · simp only [e4]; simp [insF_mem, clear_mem]; grind
  by_cases e5 : a.kind = 5
  · simp only [e5]; simp [clear_mem]; grind
  by_cases e6 : a.kind = 6
  · simp [e6]
  have e7 : a.kind = 7 := by omega
  simp [e7]
end Am
namespace Am
open Go
set_option linter.unusedSimpArgs false
set_option linter.unusedVariables false

theorem sumV_none {o : ByteArray} {r : Int} : ∀ {D : List GAct}, (∀ a, a ∈ D → counts o r a = false) → sumV o r D = 0
  | [], _ => rfl
  | a :: D, h => by
    rw [sumV, h a (by simp)]
    simpa using sumV_none (o := o) (r := r) (D := D) (fun x hx => h x (by simp [hx]))
theorem tal_one {l : List GTally} (h : l.Pairwise fun a b => tallyLt a b = true) {t u : GTally} (ht : t ∈ l) (hu : u ∈ l) (e1 : t.obj = u.obj) (e2 : t.rep = u.rep) : t = u := by
  obtain ⟨i, hi, rfl⟩ := mem_nth ht
  obtain ⟨j, hj, rfl⟩ := mem_nth hu
  rcases Nat.lt_trichotomy i j with h1 | h1 | h1
  · have := pw_nth h h1 hj
    simp [tallyLt, e1, e2, strLt_self] at this
  · rw [h1]
  · have := pw_nth h h1 hi
    simp [tallyLt, e1, e2, strLt_self] at this
theorem set_memI {α : Type} [Cel α] {l : List α} {i : Nat} (hi : i < l.length) (y : α) : y ∈ l.set i y := List.mem_set hi y
theorem tal_next {D : List GAct} {s : GState} {a : GAct} (h : Canon D s) (hd : Done s a) (t : GTally) : t ∈ (doneAct s a).tallies ↔ (∃ b, b ∈ a :: D ∧ counts t.obj t.rep b = true) ∧ t.sum = sumV t.obj t.rep (a :: D) % 1000000 := by
  obtain ⟨k1, k7, _, _, v0, v1, _⟩ := plain_of hd.a0
  by_cases e1 : a.kind = 1
  case neg =>
    have hc : counts t.obj t.rep a = false := by simp [counts, e1]
    have ht : (doneAct s a).tallies = s.tallies := by
      unfold doneAct
      simp only [e1, if_false]
      repeat' split
      all_goals rfl
    rw [ht, h.tal, sumV, hc]
    simp [hc]
  have ht : (doneAct s a).tallies = addT s.tallies a.obj a.dot.rep a.val := by unfold doneAct; simp [e1]
  rw [ht]
  have vD : ∀ b, b ∈ D → 0 ≤ b.val := fun b hb => (plain_of (h.acts b hb).1).2.2.2.2.1
  by_cases eo : t.obj = a.obj ∧ t.rep = a.dot.rep
  · obtain ⟨eo, er⟩ := eo
    have hc : counts t.obj t.rep a = true := by simp [counts, e1, eo, er]
    have hs : sumV t.obj t.rep (a :: D) = a.val + sumV t.obj t.rep D := by rw [sumV, hc]; rfl
    rw [hs]
    have hex : ∃ b, b ∈ a :: D ∧ counts t.obj t.rep b = true := ⟨a, by simp, hc⟩
    have h0 := sumV_nonneg (o := t.obj) (r := t.rep) vD
    rcases addT_cases s.tallies a.obj a.dot.rep a.val with ⟨i, hi, q1, q2, e⟩ | ⟨q, e⟩
    · rw [e]
      have hT := ((h.tal (nth s.tallies i)).1 (nth_mem hi)).2
      rw [q1, q2, ← eo, ← er] at hT
      have hb : 0 ≤ (nth s.tallies i).sum ∧ (nth s.tallies i).sum < 1000000 := by omega
      have hval : (IntKind.i64.wrap ((nth s.tallies i).sum + a.val)).tmod 1000000 = (a.val + sumV t.obj t.rep D) % 1000000 := by
        rw [wrap64 (by omega) (by omega), Int.tmod_eq_emod_of_nonneg (by omega), hT]
        omega
      rw [hval]
      constructor
      · intro hm
        obtain ⟨j, hj, ej⟩ := mem_nth hm
        rw [List.length_set] at hj
        rw [nth_setL] at ej
        split at ej
        · exact ⟨hex, (congrArg GTally.sum ej).symm⟩
        · rename_i hne
          exfalso
          have e2 : nth s.tallies j = nth s.tallies i := tal_one h.sok.t3 (nth_mem hj) (nth_mem hi) (by rw [ej, eo, q1]) (by rw [ej, er, q2])
          rcases Nat.lt_trichotomy i j with h1 | h1 | h1
          · have := pw_nth h.sok.t3 h1 hj
            rw [e2, tallyLt_self] at this; cases this
          · exact hne ⟨h1.symm, hi⟩
          · have := pw_nth h.sok.t3 h1 hi
            rw [e2, tallyLt_self] at this; cases this
      · rintro ⟨_, hsum⟩
        have : t = ⟨a.obj, a.dot.rep, (a.val + sumV t.obj t.rep D) % 1000000⟩ := GTally.ext eo er hsum
        rw [← this]
        exact set_memI hi t
    · rw [e, insF_mem]
      have hnone : ∀ b, b ∈ D → counts t.obj t.rep b = false := by
        intro b hb
        cases hcb : counts t.obj t.rep b
        · rfl
        · exfalso
          have := (h.tal ⟨t.obj, t.rep, sumV t.obj t.rep D % 1000000⟩).2 ⟨⟨b, hb, hcb⟩, rfl⟩
          exact q _ this ⟨eo, er⟩
      rw [sumV_none hnone]
      constructor
      · rintro (rfl | hm)
        · exact ⟨hex, by simp only; omega⟩
        · exact absurd ⟨eo, er⟩ (q t hm)
      · rintro ⟨_, hsum⟩
        exact .inl (GTally.ext eo er (by simp only; omega))
  · have hc : counts t.obj t.rep a = false := by
      simp only [counts, decide_eq_false_iff_not]
      rintro ⟨_, h1, h2⟩
      exact eo ⟨h1.symm, h2.symm⟩
    rw [sumV, hc]
    have hl : t ∈ addT s.tallies a.obj a.dot.rep a.val ↔ t ∈ s.tallies := by
      rcases addT_cases s.tallies a.obj a.dot.rep a.val with ⟨i, hi, q1, q2, e⟩ | ⟨q, e⟩
      · rw [e]
        constructor
        · intro hm
          rcases set_mem hm with rfl | hm
          · exact absurd ⟨rfl, rfl⟩ eo
          · exact hm
        · intro hm
          obtain ⟨j, hj, rfl⟩ := mem_nth hm
          have hji : ¬ j = i := by rintro rfl; exact eo ⟨q1, q2⟩
          have := nth_mem (xs := s.tallies.set i ⟨a.obj, a.dot.rep, (IntKind.i64.wrap ((nth s.tallies i).sum + a.val)).tmod 1000000⟩) (i := j) (by rw [List.length_set]; exact hj)
          rw [nth_setL, if_neg (fun hh => hji hh.1)] at this
          exact this
      · rw [e, insF_mem]
        constructor
        · rintro (rfl | hm)
          · exact absurd ⟨rfl, rfl⟩ eo
          · exact hm
        · exact .inr
    rw [hl, h.tal]
    simp [hc]
end Am
namespace Am
open Go
set_option linter.unusedSimpArgs false
set_option linter.unusedVariables false

theorem nodup_inj {l : List GAct} (h : (l.map (·.dot)).Nodup) {a b : GAct} (ha : a ∈ l) (hb : b ∈ l) (e : a.dot = b.dot) : a = b := by
  induction l with
  | nil => cases ha
  | cons x r ih =>
    rw [List.map_cons, List.nodup_cons] at h
    rcases List.mem_cons.1 ha with e1 | ha'
    · rcases List.mem_cons.1 hb with e2 | hb'
      · rw [e1, e2]
      · exact absurd (List.mem_map.2 ⟨b, hb', by rw [← e, e1]⟩) h.1
    · rcases List.mem_cons.1 hb with e2 | hb'
      · exact absurd (List.mem_map.2 ⟨a, ha', by rw [e, e2]⟩) h.1
      · exact ih h.2 ha' hb'
theorem ref_known {a : GAct} (h : actOk a = true) (h7 : a.kind = 7) : knows a.knew a.ref = true := by
  simp only [actOk, Bool.and_eq_true] at h
  have := h.2
  rw [actRef, if_pos (by simp [h7])] at this
  exact this
theorem cel_next {D : List GAct} {s : GState} {a : GAct} (h : Canon D s) (hd : Done s a) (c : GCell) : c ∈ (doneAct s a).cs ↔ ∃ b, b ∈ a :: D ∧ b.kind = 6 ∧ c = celOf b c.gone ∧ (c.gone = true ↔ isCut (a :: D) b.dot) := by
  obtain ⟨k1, k7, _⟩ := plain_of hd.a0
  have hcut : a.kind ≠ 7 → ∀ d, isCut (a :: D) d ↔ isCut D d := by
    intro h7 d
    unfold isCut
    simp [h7]
  by_cases e6 : a.kind = 6
  · have ht : (doneAct s a).cs = insF cellLt (celOf a false) s.cs := by unfold doneAct celOf; simp [e6]
    rw [ht, insF_mem]
    have hno : ¬ isCut D a.dot := by
      rintro ⟨y, hy, h7, hr⟩
      have h1 := h.acts y hy
      have h2 := knows_in h1.2 (ref_known h1.1 h7)
      rw [hr, hd.n] at h2; cases h2
    have h67 : a.kind ≠ 7 := by omega
    constructor
    · rintro (rfl | hm)
      · exact ⟨a, by simp, e6, rfl, by simp [celOf, hcut h67, hno]⟩
      · obtain ⟨b, hb, q1, q2, q3⟩ := (h.cel c).1 hm
        exact ⟨b, by simp [hb], q1, q2, by rw [hcut h67]; exact q3⟩
    · rintro ⟨b, hb, q1, q2, q3⟩
      rw [hcut h67] at q3
      rcases List.mem_cons.1 hb with rfl | hb
      · left
        have : c.gone = false := by
          cases hg : c.gone
          · rfl
          · exact absurd (q3.1 hg) hno
        rw [q2, this]
      · exact .inr ((h.cel c).2 ⟨b, hb, q1, q2, q3⟩)
  by_cases e7 : a.kind = 7
  · have ht : (doneAct s a).cs = s.cs.set (refAtI s a) { nth s.cs (refAtI s a) with gone := true } := by unfold doneAct; simp [e7]
    rw [ht]
    have hr := hd.r
    rw [actRefOk, if_pos (.inl e7)] at hr
    simp only [Bool.and_eq_true, decide_eq_true_eq] at hr
    obtain ⟨hi, hdot⟩ : refAtI s a < s.cs.length ∧ (nth s.cs (refAtI s a)).dot = a.ref := by
      have h1 := hr.1
      unfold refAtI
      unfold cellAt at h1 ⊢
      rcases idx_cases (dotIs a.ref) s.cs with ⟨j, hj, q1, _, c1⟩ | ⟨_, c1⟩
      · rw [c1, Int.toNat_natCast]
        exact ⟨hj, by simpa [dotIs] using q1⟩
      · omega
    generalize refAtI s a = i at hi hdot ⊢
    have hcut7 : ∀ d, isCut (a :: D) d ↔ d = a.ref ∨ isCut D d := by
      intro d
      unfold isCut
      simp only [List.mem_cons]
      constructor
      · rintro ⟨y, rfl | hy, q1, q2⟩
        · exact .inl q2.symm
        · exact .inr ⟨y, hy, q1, q2⟩
      · rintro (rfl | ⟨y, hy, q1, q2⟩)
        · exact ⟨a, .inl rfl, e7, rfl⟩
        · exact ⟨y, .inr hy, q1, q2⟩
    have hmem : ∀ x : GCell, x ∈ s.cs.set i { nth s.cs i with gone := true } ↔ (x = { nth s.cs i with gone := true }) ∨ (x ∈ s.cs ∧ x.dot ≠ a.ref) := by
      intro x
      constructor
      · intro hm
        obtain ⟨j, hj, ej⟩ := mem_nth hm
        rw [List.length_set] at hj
        rw [nth_setL] at ej
        split at ej
        · exact .inl ej.symm
        · rename_i hne
          refine .inr ⟨by rw [← ej]; exact nth_mem hj, fun e => hne ⟨?_, hi⟩⟩
          have e2 : nth s.cs j = nth s.cs i := cells_one h.sok.c3 (nth_mem hj) (nth_mem hi) (by rw [ej, e, hdot])
          have irr : ∀ d : GDot, before d d = false := fun d => by simp [before]
          rcases Nat.lt_trichotomy i j with h1 | h1 | h1
          · have := pw_nth h.sok.c3 h1 hj
            rw [e2, cellLt, irr] at this; cases this
          · exact h1.symm
          · have := pw_nth h.sok.c3 h1 hi
            rw [e2, cellLt, irr] at this; cases this
      · rintro (rfl | ⟨hm, hne⟩)
        · exact set_memI hi _
        · obtain ⟨j, hj, rfl⟩ := mem_nth hm
          have hji : ¬ j = i := by rintro rfl; exact hne hdot
          have := nth_mem (xs := s.cs.set i { nth s.cs i with gone := true }) (i := j) (by rw [List.length_set]; exact hj)
          rw [nth_setL, if_neg (fun hh => hji hh.1)] at this
          exact this
    rw [hmem]
    constructor
    · rintro (rfl | ⟨hm, hne⟩)
      · obtain ⟨b, hb, q1, q2, q3⟩ := (h.cel _).1 (nth_mem hi)
        have hbd : b.dot = a.ref := by rw [← hdot, q2]; rfl
        refine ⟨b, by simp [hb], q1, ?_, by simp [hcut7, hbd]⟩
        have e1 := congrArg GCell.obj q2
        have e2 := congrArg GCell.dot q2
        have e3 := congrArg GCell.time q2
        have e4 := congrArg GCell.ref q2
        have e5 := congrArg GCell.val q2
        exact GCell.ext e1 e2 e3 e4 e5 rfl
      · obtain ⟨b, hb, q1, q2, q3⟩ := (h.cel c).1 hm
        refine ⟨b, by simp [hb], q1, q2, ?_⟩
        have hbd : b.dot = c.dot := by rw [q2]; rfl
        rw [q3, hcut7]
        constructor
        · exact .inr
        · rintro (e | h1)
          · exact absurd (hbd.symm.trans e) hne
          · exact h1
    · rintro ⟨b, hb, q1, q2, q3⟩
      rcases List.mem_cons.1 hb with rfl | hb
      · omega
      · have hbd : c.dot = b.dot := by rw [q2]; rfl
        rw [hcut7] at q3
        by_cases e : b.dot = a.ref
        · left
          have hg : c.gone = true := q3.2 (.inl e)
          obtain ⟨b', hb', w1, w2, w3⟩ := (h.cel _).1 (nth_mem hi)
          have hbd' : b'.dot = a.ref := by rw [← hdot, w2]; rfl
          have hbb : b = b' := by
            have hn := h.nod
            exact nodup_inj hn hb hb' (by rw [e, hbd'])
          subst hbb
          have f : ∀ (x : GCell), x = celOf b x.gone → x = ⟨b.obj, b.dot, b.time, b.ref, b.val, x.gone⟩ := fun x hx => hx
          rw [f c q2, hg]
          have g := f _ w2
          have e1 := congrArg GCell.obj g
          have e2 := congrArg GCell.dot g
          have e3 := congrArg GCell.time g
          have e4 := congrArg GCell.ref g
          have e5 := congrArg GCell.val g
          exact GCell.ext e1.symm e2.symm e3.symm e4.symm e5.symm rfl
        · right
          refine ⟨(h.cel c).2 ⟨b, hb, q1, q2, ?_⟩, by rw [hbd]; exact e⟩
          rw [q3]
          constructor
          · rintro (h1 | h1)
            · exact absurd h1 e
            · exact h1
          · exact .inr
  · have ht : (doneAct s a).cs = s.cs := by
      unfold doneAct
      have : a.kind = 1 ∨ a.kind = 2 ∨ a.kind = 3 ∨ a.kind = 4 ∨ a.kind = 5 := by omega
      rcases this with e | e | e | e | e <;> simp [e]
    rw [ht, h.cel]
    constructor
    · rintro ⟨b, hb, q1, q2, q3⟩
      exact ⟨b, by simp [hb], q1, q2, by rw [hcut e7]; exact q3⟩
    · rintro ⟨b, hb, q1, q2, q3⟩
      rw [hcut e7] at q3
      rcases List.mem_cons.1 hb with rfl | hb
      · exact absurd q1 e6
      · exact ⟨b, hb, q1, q2, q3⟩
/-- One act more. -/
theorem canon_next {D : List GAct} {s : GState} {a : GAct} (h : Canon D s) (hd : Done s a) : Canon (a :: D) (doneAct s a) := by
  have hk : (doneAct s a).know = s.know.set a.dot.rep.toNat a.dot.seq := doneAct_know s a
  have hki := hd.ki
  refine ⟨done_sok hd, fun d => ?_, tal_next h hd, fun x => ?_, cel_next h hd, fun b hb => ?_, ?_⟩
  · rw [hk, knows_set hd, h.know]
    simp only [List.mem_cons]
    constructor
    · rintro (rfl | ⟨b, hb, e⟩)
      · exact ⟨a, .inl rfl, rfl⟩
      · exact ⟨b, .inr hb, e⟩
    · rintro ⟨b, rfl | hb, e⟩
      · exact .inl e.symm
      · exact .inr ⟨b, hb, e⟩
  · rw [lives_next hd]
    have hpd : ∀ b : GAct, puts b x → x.dot = b.dot := by
      rintro b (⟨_, e⟩ | ⟨_, e⟩) <;> rw [e]
    constructor
    · rintro (hp | ⟨hx, hnt⟩)
      · refine ⟨⟨a, by simp, hp⟩, ?_⟩
        rintro ⟨y, hy, _, _, hkn, _⟩
        rw [hpd a hp] at hkn
        rcases List.mem_cons.1 hy with rfl | hy
        · rw [knew_self hd.a0] at hkn; cases hkn
        · have := knows_in (h.acts y hy).2 hkn
          rw [hd.n] at this; cases this
      · obtain ⟨⟨b, hb, hp⟩, hn⟩ := (h.liv x).1 hx
        refine ⟨⟨b, by simp [hb], hp⟩, ?_⟩
        rintro ⟨y, hy, ht⟩
        rcases List.mem_cons.1 hy with rfl | hy
        · exact hnt ht
        · exact hn ⟨y, hy, ht⟩
    · rintro ⟨⟨b, hb, hp⟩, hn⟩
      rcases List.mem_cons.1 hb with rfl | hb
      · exact .inl hp
      · exact .inr ⟨(h.liv x).2 ⟨⟨b, hb, hp⟩, fun ⟨y, hy, ht⟩ => hn ⟨y, by simp [hy], ht⟩⟩, fun ht => hn ⟨a, by simp, ht⟩⟩
  · rw [hk]
    rcases List.mem_cons.1 hb with rfl | hb
    · exact ⟨hd.a0, knowIn_next hd hki⟩
    · exact ⟨(h.acts b hb).1, knowIn_next hd (h.acts b hb).2⟩
  · rw [List.map_cons, List.nodup_cons]
    refine ⟨fun hm => ?_, h.nod⟩
    obtain ⟨b, hb, e⟩ := List.mem_map.1 hm
    have := (h.know a.dot).2 ⟨b, hb, e⟩
    rw [hd.n] at this; cases this
end Am
namespace Am
open Go
set_option linter.unusedSimpArgs false
set_option linter.unusedVariables false

end Am
namespace Am
open Go
set_option linter.unusedSimpArgs false
set_option linter.unusedVariables false

theorem nodup_len {α : Type} [DecidableEq α] : ∀ {l m : List α}, l.Nodup → (∀ x, x ∈ l → x ∈ m) → l.length ≤ m.length
  | [], _, _, _ => Nat.zero_le _
  | x :: r, m, h, hs => by
    rw [List.nodup_cons] at h
    have hx := hs x (by simp)
    have h1 := nodup_len (l := r) (m := m.erase x) h.2 (fun y hy => by
      have hne : y ≠ x := by rintro rfl; exact h.1 hy
      exact (List.mem_erase_of_ne hne).2 (hs y (by simp [hy])))
    rw [List.length_erase_of_mem hx] at h1
    have := List.length_pos_of_mem hx
    simp only [List.length_cons]
    omega
theorem pw_nodup {α : Type} {lt : α → α → Bool} (hL : Lt lt) {l : List α} (h : l.Pairwise fun a b => lt a b = true) : l.Nodup := by
  refine h.imp fun {a b} hab e => ?_
  subst e
  have := hL.asym a a hab
  rw [hab] at this; cases this
theorem canon_lives {D : List GAct} {s : GState} (h : Canon D s) : s.lives.length ≤ D.length := by
  have hn : (s.lives.map (·.dot)).Nodup := by
    have : (s.lives.map (·.dot)).Pairwise fun a b => before a b = true := by
      rw [List.pairwise_map]; exact h.sok.l3
    exact pw_nodup before_Lt this
  have := nodup_len (m := D.map (·.dot)) hn (fun d hd => by
    obtain ⟨x, hx, rfl⟩ := List.mem_map.1 hd
    obtain ⟨⟨a, ha, hp⟩, _⟩ := (h.liv x).1 hx
    refine List.mem_map.2 ⟨a, ha, ?_⟩
    rcases hp with ⟨_, e⟩ | ⟨_, e⟩ <;> rw [e])
  simpa using this
theorem canon_cells {D : List GAct} {s : GState} (h : Canon D s) : s.cs.length ≤ D.length := by
  have hn : (s.cs.map (·.dot)).Nodup := by
    have : (s.cs.map (·.dot)).Pairwise fun a b => before a b = true := by
      rw [List.pairwise_map]; exact h.sok.c3
    exact pw_nodup before_Lt this
  have := nodup_len (m := D.map (·.dot)) hn (fun d hd => by
    obtain ⟨x, hx, rfl⟩ := List.mem_map.1 hd
    obtain ⟨a, ha, _, e, _⟩ := (h.cel x).1 hx
    exact List.mem_map.2 ⟨a, ha, by rw [e]; rfl⟩)
  simpa using this
theorem canon_tallies {D : List GAct} {s : GState} (h : Canon D s) : s.tallies.length ≤ D.length := by
  have hn : (s.tallies.map fun t => (t.obj, t.rep)).Nodup := by
    unfold List.Nodup
    rw [List.pairwise_map]
    refine h.sok.t3.imp fun {a b} hab e => ?_
    simp only [Prod.mk.injEq] at e
    simp [tallyLt, e.1, e.2, strLt_self] at hab
  have := nodup_len (m := D.map fun a => (a.obj, a.dot.rep)) hn (fun d hd => by
    obtain ⟨t, ht, rfl⟩ := List.mem_map.1 hd
    obtain ⟨⟨a, ha, hc⟩, _⟩ := (h.tal t).1 ht
    simp only [counts, decide_eq_true_eq] at hc
    exact List.mem_map.2 ⟨a, ha, by rw [hc.2.1, hc.2.2]⟩)
  simpa using this
end Am
namespace Am
open Go
set_option linter.unusedSimpArgs false
set_option linter.unusedVariables false

theorem doneAct_len (s : GState) (a : GAct) : (doneAct s a).tallies.length ≤ s.tallies.length + 1 ∧ (doneAct s a).lives.length ≤ s.lives.length + 1 ∧ (doneAct s a).cs.length ≤ s.cs.length + 1 := by
  have sub := fun m => (clear_sub m a.obj a.key a.knew s.lives).length_le
  have h1 := addT_len s.tallies a.obj a.dot.rep a.val
  have s1 := sub true
  have s2 := sub false
  unfold doneAct
  simp only
  repeat' split
  all_goals simp only [insF_len, List.length_set]
  all_goals omega
theorem know_le {k k' : List Int} (h : knowOk k = true) (h' : knowOk k' = true) (e : ∀ d, knows k d = true → knows k' d = true) : ∀ j : Nat, j < k.length → nth k j ≤ nth k' j := by
  have hk := h
  have hk' := h'
  simp only [knowOk, Bool.and_eq_true, decide_eq_true_eq] at hk hk'
  intro j hj
  have b := hk.2 j hj
  have b' := hk'.2 j (by omega)
  rcases Int.lt_or_le (nth k' j) (nth k j) with h1 | h1
  · have hd : dotOk ⟨(j : Int), nth k j⟩ = true := by simp only [dotOk, spIn, Bool.and_eq_true, decide_eq_true_eq]; omega
    have := e ⟨(j : Int), nth k j⟩ (by simp only [knows, h, hd, Bool.true_and, decide_eq_true_eq, Int.toNat_natCast]; exact Int.le_refl _)
    simp only [knows, h', hd, Bool.true_and, decide_eq_true_eq, Int.toNat_natCast] at this
    exact this
  · exact h1
theorem can_do {D0 D : List GAct} {s0 s : GState} {a : GAct} (h0 : Canon D0 s0) (hd : Done s0 a) (h : Canon D s) (hsub : ∀ b, b ∈ D0 → b ∈ D) (hn : knows s.know a.dot = false) (hl : D.length ≤ 119) : (doAct s a).2 = 0 := by
  have hk : ∀ d, knows s0.know d = true → knows s.know d = true := fun d hd => by
    obtain ⟨b, hb, e⟩ := (h0.know d).1 hd
    exact (h.know d).2 ⟨b, hsub b hb, e⟩
  have hle := know_le h0.sok.k h.sok.k hk
  have hki : knowIn a.knew s.know = true := by
    have := hd.ki
    have l0 := h0.sok.k
    simp only [knowIn, Bool.and_eq_true, decide_eq_true_eq] at this ⊢
    refine ⟨⟨this.1.1, h.sok.k⟩, fun j hj => Int.le_trans (this.2 j hj) (hle j ?_)⟩
    have := this.1.1
    simp only [knowOk, Bool.and_eq_true, decide_eq_true_eq] at this l0
    omega
  have hr : actRefOk s a = true := by
    have hr0 := hd.r
    unfold actRefOk at hr0 ⊢
    split
    · rename_i hc
      rw [if_pos hc] at hr0
      simp only [Bool.and_eq_true, Bool.or_eq_true, decide_eq_true_eq, beq_iff_eq] at hr0 ⊢
      obtain ⟨p1, p2, p3⟩ := hr0
      rcases idx_cases (dotIs a.ref) s0.cs with ⟨j, hj, q1, _, c1⟩ | ⟨_, c1⟩
      · have ej : refAtI s0 a = j := by unfold refAtI cellAt; rw [c1]; rfl
        rw [ej] at p2 p3
        have q1' : (nth s0.cs j).dot = a.ref := by simpa [dotIs] using q1
        obtain ⟨b, hb, w1, w2, w3⟩ := (h0.cel _).1 (nth_mem hj)
        have hc : ∃ g : Bool, celOf b g ∈ s.cs := by
          by_cases hcu : isCut D b.dot
          · exact ⟨true, (h.cel _).2 ⟨b, hsub b hb, w1, rfl, by simp [celOf, hcu]⟩⟩
          · exact ⟨false, (h.cel _).2 ⟨b, hsub b hb, w1, rfl, by simp [celOf, hcu]⟩⟩
        obtain ⟨g, hg⟩ := hc
        have hbd : (celOf b g).dot = a.ref := by rw [← q1', w2]; rfl
        obtain ⟨z1, z2⟩ := cellAt_of h.sok.c3 hg
        rw [hbd] at z1 z2
        have z3 : nth s.cs (refAtI s a) = celOf b g := z2
        rw [z3]
        have e1 : (celOf b g).obj = (nth s0.cs j).obj := by rw [w2]; rfl
        have e2 : (celOf b g).time = (nth s0.cs j).time := by rw [w2]; rfl
        rw [e1, e2]
        exact ⟨z1, p2, p3⟩
      · unfold cellAt at p1; omega
    · rfl
  have hm : tooMany (doneAct s a) = false := by
    have := doneAct_len s a
    have l1 := canon_tallies h
    have l2 := canon_lives h
    have l3 := canon_cells h
    simp only [tooMany, Bool.or_eq_false_iff, decide_eq_false_iff_not]
    omega
  unfold doAct
  rw [if_neg (by simp [of_sok h.sok]), if_neg (by simp [hd.a0]), if_neg (by simp [hn]), if_neg (by simp [hki]), if_neg (by simp [hr]), if_neg (by simp [hm])]
end Am
namespace Am
open Go
set_option linter.unusedSimpArgs false
set_option linter.unusedVariables false

def newS : GState := ⟨[0, 0, 0], [], [], []⟩
def doK (l : List GAct) (s : GState) : Nat → GState
  | 0 => s
  | i + 1 => (doAct (doK l s i) (nth l i)).1
/-- All of them are done, one behind the other. -/
def whole (l : List GAct) : Prop := ∀ i : Nat, i < l.length → (doAct (doK l newS i) (nth l i)).2 = 0
theorem canon_whole {l : List GAct} (h : whole l) : ∀ i : Nat, i ≤ l.length → Canon (l.take i).reverse (doK l newS i)
  | 0, _ => by simpa [doK, newS] using canon_new
  | i + 1, hi => by
    have ih := canon_whole h i (by omega)
    obtain ⟨h1, h2⟩ := done_of (h i (by omega))
    have e : (l.take (i + 1)).reverse = nth l i :: (l.take i).reverse := by
      rw [take_snoc (by omega)]; simp
    rw [e, doK, h2]
    exact canon_next ih h1
theorem nod_map {l : List GAct} (h : (l.map (·.dot)).Nodup) : l.Nodup := by
  unfold List.Nodup at h
  rw [List.pairwise_map] at h
  exact h.imp fun {a b} hab e => hab (by rw [e])
theorem perm_of {l m : List GAct} (hl : (l.map (·.dot)).Nodup) (hm : (m.map (·.dot)).Nodup) (h : ∀ x, x ∈ l ↔ x ∈ m) : l.Perm m := by
  have n1 : l.Nodup := nod_map hl
  have n2 : m.Nodup := nod_map hm
  exact (List.perm_ext_iff_of_nodup n1 n2).2 h
end Am
namespace Am
open Go
set_option linter.unusedSimpArgs false
set_option linter.unusedVariables false

/-- One act more that can be done keeps a list whole. -/
theorem whole_snoc {l : List GAct} (h : whole l) {D0 : List GAct} {s0 : GState} {a : GAct} (h0 : Canon D0 s0) (hd : Done s0 a) (hsub : ∀ b, b ∈ D0 → b ∈ l) (hn : ∀ b, b ∈ l → b.dot ≠ a.dot) (hl : l.length ≤ 119) : whole (l ++ [a]) := by
  have hpre : ∀ i : Nat, i ≤ l.length → doK (l ++ [a]) newS i = doK l newS i := by
    intro i
    induction i with
    | zero => intro _; rfl
    | succ i ih =>
      intro hi
      have e : nth (l ++ [a]) i = nth l i := by
        unfold nth
        rw [List.getD_eq_getElem?_getD, List.getD_eq_getElem?_getD, List.getElem?_append_left (by omega)]
      rw [doK, doK, ih (by omega), e]
  intro i hi
  rw [List.length_append, List.length_singleton] at hi
  rcases Nat.lt_or_ge i l.length with h1 | h1
  · have e : nth (l ++ [a]) i = nth l i := by
      unfold nth
      rw [List.getD_eq_getElem?_getD, List.getD_eq_getElem?_getD, List.getElem?_append_left h1]
    rw [hpre i (by omega), e]
    exact h i h1
  · have ei : i = l.length := by omega
    subst ei
    have e : nth (l ++ [a]) l.length = a := by
      unfold nth
      rw [List.getD_eq_getElem?_getD, List.getElem?_append_right (Nat.le_refl _)]
      simp
    rw [hpre _ (Nat.le_refl _), e]
    have hW := canon_whole h l.length (Nat.le_refl _)
    rw [List.take_length] at hW
    refine can_do h0 hd hW (fun b hb => List.mem_reverse.2 (hsub b hb)) ?_ (by simpa using hl)
    cases hq : knows (doK l newS l.length).know a.dot
    · rfl
    · obtain ⟨b, hb, e⟩ := (hW.know _).1 hq
      exact absurd e (hn b (List.mem_reverse.1 hb))
end Am
namespace Am
open Go
set_option linter.unusedSimpArgs false
set_option linter.unusedVariables false

theorem nth_app_l {α : Type} [Cel α] {xs ys : List α} {i : Nat} (h : i < xs.length) : nth (xs ++ ys) i = nth xs i := by
  unfold nth
  rw [List.getD_eq_getElem?_getD, List.getD_eq_getElem?_getD, List.getElem?_append_left h]
theorem nth_app_at {α : Type} [Cel α] {xs : List α} {y : α} : nth (xs ++ [y]) xs.length = y := by
  unfold nth
  rw [List.getD_eq_getElem?_getD, List.getElem?_append_right (Nat.le_refl _)]
  simp
theorem maxK_nth (a b : List Int) : ∀ n j, j < n → nth (maxK a b n) j = max (nth a j) (nth b j)
  | n + 1, j, h => by
    rw [maxK]
    have hl := maxK_len a b n
    by_cases e : j = n
    · subst e
      have := nth_app_at (xs := maxK a b j) (y := max (nth a j) (nth b j))
      rw [hl] at this
      exact this
    · rw [nth_app_l (by omega)]
      exact maxK_nth a b n j (by omega)
theorem knowMax_spec {a b : List Int} (ha : knowOk a = true) (hb : knowOk b = true) : knowOk (knowMax a b) = true ∧ (knowMax a b).length = 3 ∧ ∀ j : Nat, j < 3 → nth (knowMax a b) j = max (nth a j) (nth b j) := by
  have e : knowMax a b = maxK a b a.length := by unfold knowMax; rw [if_pos (by simp [ha, hb])]
  have ha' := ha
  have hb' := hb
  simp only [knowOk, Bool.and_eq_true, decide_eq_true_eq] at ha' hb'
  have hl := maxK_len a b a.length
  have hn : ∀ j : Nat, j < 3 → nth (knowMax a b) j = max (nth a j) (nth b j) := fun j hj => by rw [e]; exact maxK_nth a b _ j (by omega)
  refine ⟨?_, by rw [e]; omega, hn⟩
  simp only [knowOk, Bool.and_eq_true, decide_eq_true_eq]
  refine ⟨by rw [e]; omega, fun j hj => ?_⟩
  have h3 : j < 3 := by rw [e] at hj; omega
  rw [hn j h3]
  have h1 := ha'.2 j (by omega)
  have h2 := hb'.2 j (by omega)
  omega
theorem knows_max {a b : List Int} (ha : knowOk a = true) (hb : knowOk b = true) (d : GDot) : knows (knowMax a b) d = true ↔ knows a d = true ∨ knows b d = true := by
  obtain ⟨h1, h2, h3⟩ := knowMax_spec ha hb
  simp only [knows, h1, ha, hb, Bool.true_and, Bool.and_eq_true, decide_eq_true_eq]
  constructor
  · rintro ⟨hd, hs⟩
    have hr : d.rep.toNat < 3 := by simp only [dotOk, spIn, Bool.and_eq_true, decide_eq_true_eq] at hd; omega
    rw [h3 _ hr] at hs
    by_cases e : d.seq ≤ nth a d.rep.toNat
    · exact .inl ⟨hd, e⟩
    · exact .inr ⟨hd, by omega⟩
  · intro h
    have hd : dotOk d = true := by rcases h with h | h <;> exact h.1
    have hr : d.rep.toNat < 3 := by simp only [dotOk, spIn, Bool.and_eq_true, decide_eq_true_eq] at hd; omega
    refine ⟨hd, ?_⟩
    rw [h3 _ hr]
    rcases h with h | h
    · have := h.2; omega
    · have := h.2; omega
theorem livB_mem {a b : GState} {x : GLive} : x ∈ livB a b b.lives.length ↔ (x ∈ a.lives ∧ keepA b x = true) ∨ (x ∈ b.lives ∧ newB a x = true) := by
  unfold livB
  rw [(insN_perm liveLt (newB a) (livA a b a.lives.length) b.lives b.lives.length).mem_iff, filK_mem (Nat.le_refl _)]
  have e1 : x ∈ livA a b a.lives.length ↔ x ∈ a.lives ∧ keepA b x = true := by
    unfold livA
    rw [filK_filter _ _ _ (Nat.le_refl _), List.take_length, List.mem_filter]
  rw [e1]
  constructor
  · rintro (h | ⟨i, hi, rfl, hp⟩)
    · exact .inl h
    · exact .inr ⟨nth_mem hi, hp⟩
  · rintro (h | ⟨h, hp⟩)
    · exact .inl h
    · obtain ⟨i, hi, e⟩ := mem_nth h
      exact .inr ⟨i, hi, e, hp⟩
theorem talTwo_mem {ka kb : List Int} {x y : List GTally} (hx : x.Pairwise fun a b => tallyLt a b = true) (hy : y.Pairwise fun a b => tallyLt a b = true) {t : GTally} : t ∈ talTwo ka kb x y ↔ (t ∈ x ∧ noMore ka kb t = true) ∨ (t ∈ y ∧ more ka kb t = true) := by
  rw [(talTwo_perm hx hy).2.mem_iff, filK_mem (Nat.le_refl _), filK_filter _ _ _ (Nat.le_refl _), List.take_length, List.mem_filter]
  constructor
  · rintro (h | ⟨i, hi, rfl, hp⟩)
    · exact .inl h
    · exact .inr ⟨nth_mem hi, hp⟩
  · rintro (h | ⟨h, hp⟩)
    · exact .inl h
    · obtain ⟨i, hi, e⟩ := mem_nth h
      exact .inr ⟨i, hi, e, hp⟩
def goneIn (b : List GCell) (d : GDot) : Bool := b.any fun y => decide (y.dot = d) && y.gone
theorem goneIn_iff {b : List GCell} {d : GDot} : goneIn b d = true ↔ ∃ y, y ∈ b ∧ y.dot = d ∧ y.gone = true := by
  simp [goneIn]
theorem goneAt_memI {l : List GCell} {d : GDot} {g : Bool} {c : GCell} : c ∈ goneAt l d g ↔ ∃ y, y ∈ l ∧ c = if y.dot = d then { y with gone := y.gone || g } else y := by
  unfold goneAt
  rw [List.mem_map]
  constructor
  · rintro ⟨y, h, e⟩; exact ⟨y, h, e.symm⟩
  · rintro ⟨y, h, e⟩; exact ⟨y, h, e.symm⟩
theorem cellsA_mem {a b : List GCell} : ∀ {n : Nat}, n ≤ b.length → ∀ {c : GCell}, c ∈ cellsA a b n ↔ (∃ x, x ∈ a ∧ c = { x with gone := x.gone || goneIn (b.take n) x.dot }) ∨ ((∃ i : Nat, i < n ∧ c = nth b i) ∧ hasDot a c.dot = false)
  | 0, _, c => by
    simp only [cellsA, List.take_zero, goneIn, List.any_nil, Bool.or_false]
    constructor
    · intro h; exact .inl ⟨c, h, rfl⟩
    · rintro (⟨x, h, rfl⟩ | ⟨⟨i, hi, _⟩, _⟩)
      · exact h
      · omega
  | n + 1, hn, c => by
    have ih := fun c => cellsA_mem (a := a) (b := b) (n := n) (by omega) (c := c)
    have hg : ∀ d, goneIn (b.take (n + 1)) d = (goneIn (b.take n) d || (decide ((nth b n).dot = d) && (nth b n).gone)) := fun d => by
      rw [take_snoc (by omega)]
      simp [goneIn]
    rw [cellsA]
    split
    · rename_i hd
      rw [goneAt_memI]
      constructor
      · rintro ⟨y, hy, rfl⟩
        rcases (ih y).1 hy with ⟨x, hx, rfl⟩ | ⟨⟨i, hi, rfl⟩, hno⟩
        · left
          refine ⟨x, hx, ?_⟩
          rw [hg]
          by_cases e : x.dot = (nth b n).dot
          · simp [e, Bool.or_assoc]
          · have e' : ¬ (nth b n).dot = x.dot := fun h => e h.symm
            simp [e, e']
        · right
          have hne : ¬ (nth b i).dot = (nth b n).dot := fun e => by rw [e, hd] at hno; cases hno
          rw [if_neg hne]
          exact ⟨⟨i, by omega, rfl⟩, hno⟩
      · rintro (⟨x, hx, rfl⟩ | ⟨⟨i, hi, rfl⟩, hno⟩)
        · refine ⟨{ x with gone := x.gone || goneIn (b.take n) x.dot }, (ih _).2 (.inl ⟨x, hx, rfl⟩), ?_⟩
          rw [hg]
          by_cases e : x.dot = (nth b n).dot
          · simp [e, Bool.or_assoc]
          · have e' : ¬ (nth b n).dot = x.dot := fun h => e h.symm
            simp [e, e']
        · have hin : i ≠ n := fun e => by rw [e, hd] at hno; cases hno
          have hne : ¬ (nth b i).dot = (nth b n).dot := fun e => by rw [e, hd] at hno; cases hno
          exact ⟨nth b i, (ih _).2 (.inr ⟨⟨i, by omega, rfl⟩, hno⟩), by rw [if_neg hne]⟩
    · rename_i hd
      simp only [Bool.not_eq_true] at hd
      rw [List.mem_append, List.mem_singleton, ih]
      have hx0 : ∀ x, x ∈ a → (decide ((nth b n).dot = x.dot) && (nth b n).gone) = false := fun x hx => by
        have : ¬ (nth b n).dot = x.dot := fun e => by
          have := hasDot_iff.2 ⟨x, hx, e.symm⟩
          rw [hd] at this; cases this
        simp [this]
      constructor
      · rintro ((⟨x, hx, rfl⟩ | ⟨⟨i, hi, rfl⟩, hno⟩) | rfl)
        · left; exact ⟨x, hx, by rw [hg, hx0 x hx, Bool.or_false]⟩
        · right; exact ⟨⟨i, by omega, rfl⟩, hno⟩
        · right; exact ⟨⟨n, by omega, rfl⟩, hd⟩
      · rintro (⟨x, hx, rfl⟩ | ⟨⟨i, hi, rfl⟩, hno⟩)
        · left; left; exact ⟨x, hx, by rw [hg, hx0 x hx, Bool.or_false]⟩
        · by_cases e : i = n
          · subst e; right; rfl
          · left; right; exact ⟨⟨i, by omega, rfl⟩, hno⟩
theorem cellsU_mem {a b : List GCell} {c : GCell} : c ∈ cellsU a b ↔ (∃ x, x ∈ a ∧ c = { x with gone := x.gone || goneIn b x.dot }) ∨ (c ∈ b ∧ hasDot a c.dot = false) := by
  unfold cellsU
  rw [(cellsI_perm a b b.length).mem_iff, cellsA_mem (Nat.le_refl _), List.take_length]
  constructor
  · rintro (h | ⟨⟨i, hi, rfl⟩, h⟩)
    · exact .inl h
    · exact .inr ⟨nth_mem hi, h⟩
  · rintro (h | ⟨h1, h⟩)
    · exact .inl h
    · obtain ⟨i, hi, e⟩ := mem_nth h1
      exact .inr ⟨⟨i, hi, e.symm⟩, h⟩
end Am
namespace Am
open Go
set_option linter.unusedSimpArgs false
set_option linter.unusedVariables false

theorem sumV_filter (o : ByteArray) (r : Int) : ∀ D : List GAct, sumV o r D = sumV o r (D.filter (counts o r))
  | [] => rfl
  | a :: D => by
    have ih := sumV_filter o r D
    cases h : counts o r a
    · rw [List.filter_cons_of_neg (by simp [h]), sumV, h, ← ih]; rfl
    · rw [List.filter_cons_of_pos h, sumV, sumV, h, ih]
theorem sumV_same {o : ByteArray} {r : Int} {D D' : List GAct} (h1 : (D.map (·.dot)).Nodup) (h2 : (D'.map (·.dot)).Nodup) (h : ∀ a, counts o r a = true → (a ∈ D ↔ a ∈ D')) : sumV o r D = sumV o r D' := by
  rw [sumV_filter o r D, sumV_filter o r D']
  refine sumV_perm ((List.perm_ext_iff_of_nodup ((nod_map h1).filter _) ((nod_map h2).filter _)).2 fun a => ?_)
  rw [List.mem_filter, List.mem_filter]
  constructor
  · rintro ⟨q1, q2⟩; exact ⟨(h a q2).1 q1, q2⟩
  · rintro ⟨q1, q2⟩; exact ⟨(h a q2).2 q1, q2⟩
theorem knowIn_of {k m : List Int} (hk : knowOk k = true) (hm : knowOk m = true) (h : ∀ j : Nat, j < 3 → nth k j ≤ nth m j) : knowIn k m = true := by
  simp only [knowIn, hk, hm, Bool.true_and, decide_eq_true_eq]
  simp only [knowOk, Bool.and_eq_true, decide_eq_true_eq] at hk
  intro j hj
  exact h j (by omega)
theorem knowIn_at {k m : List Int} (h : knowIn k m = true) : knowOk k = true ∧ knowOk m = true ∧ ∀ j : Nat, j < 3 → nth k j ≤ nth m j := by
  simp only [knowIn, Bool.and_eq_true, decide_eq_true_eq] at h
  have hk := h.1.1
  simp only [knowOk, Bool.and_eq_true, decide_eq_true_eq] at hk
  exact ⟨h.1.1, h.1.2, fun j hj => h.2 j (by omega)⟩
theorem puts_dot {a : GAct} {x : GLive} (h : puts a x) : x.dot = a.dot := by
  rcases h with ⟨_, e⟩ | ⟨_, e⟩ <;> rw [e]

theorem canon_mergeRaw {D1 D2 D : List GAct} {s1 s2 : GState} (h1 : Canon D1 s1) (h2 : Canon D2 s2) (hD : ∀ a, a ∈ D ↔ a ∈ D1 ∨ a ∈ D2) (hn : (D.map (·.dot)).Nodup) (hl : D.length ≤ 120) : Canon D (mergeRaw s1 s2) := by
  have same : ∀ {a b : GAct}, a ∈ D1 → b ∈ D2 → a.dot = b.dot → a = b := fun ha hb e => nodup_inj hn ((hD _).2 (.inl ha)) ((hD _).2 (.inr hb)) e
  have in1 : ∀ {b : GAct}, b ∈ D2 → knows s1.know b.dot = true → b ∈ D1 := fun {b} hb hk => by
    obtain ⟨a, ha, e⟩ := (h1.know _).1 hk
    rw [← same ha hb e]; exact ha
  have in2 : ∀ {a : GAct}, a ∈ D1 → knows s2.know a.dot = true → a ∈ D2 := fun {a} ha hk => by
    obtain ⟨b, hb, e⟩ := (h2.know _).1 hk
    rw [same ha hb e.symm]; exact hb
  have k1 := h1.sok.k
  have k2 := h2.sok.k
  obtain ⟨km, kl, kn⟩ := knowMax_spec k1 k2
  have rng : ∀ {a : GAct}, a ∈ D → 0 ≤ a.dot.rep ∧ a.dot.rep < 3 := fun {a} ha => by
    have : actOk a = true := by
      rcases (hD a).1 ha with ha | ha
      · exact (h1.acts a ha).1
      · exact (h2.acts a ha).1
    have := dot_of this
    omega
  have kn1 : ∀ {a : GAct}, a ∈ D1 → knows s1.know a.dot = true := fun ha => (h1.know _).2 ⟨_, ha, rfl⟩
  have kn2 : ∀ {a : GAct}, a ∈ D2 → knows s2.know a.dot = true := fun ha => (h2.know _).2 ⟨_, ha, rfl⟩
  have mono : ∀ {k m : List Int} {d : GDot}, knowOk m = true → nth k d.rep.toNat ≤ nth m d.rep.toNat → knows k d = true → knows m d = true := fun {k m d} hm hle hk => by
    simp only [knows, hm, Bool.true_and, Bool.and_eq_true, decide_eq_true_eq] at hk ⊢
    exact ⟨hk.1.2, by omega⟩
  -- what is counted
  have cnt1 : ∀ {o : ByteArray} {r : Int}, nth s2.know r.toNat ≤ nth s1.know r.toNat → ∀ a, counts o r a = true → (a ∈ D ↔ a ∈ D1) := fun {o r} hle a hc => by
    simp only [counts, decide_eq_true_eq] at hc
    rw [hD]
    constructor
    · rintro (ha | ha)
      · exact ha
      · exact in1 ha (mono k1 (by rw [hc.2.2]; exact hle) (kn2 ha))
    · exact .inl
  have cnt2 : ∀ {o : ByteArray} {r : Int}, nth s1.know r.toNat ≤ nth s2.know r.toNat → ∀ a, counts o r a = true → (a ∈ D ↔ a ∈ D2) := fun {o r} hle a hc => by
    simp only [counts, decide_eq_true_eq] at hc
    rw [hD]
    constructor
    · rintro (ha | ha)
      · exact in2 ha (mono k2 (by rw [hc.2.2]; exact hle) (kn1 ha))
      · exact ha
    · exact .inr
  have tal : ∀ t : GTally, t ∈ (mergeRaw s1 s2).tallies ↔ (∃ a, a ∈ D ∧ counts t.obj t.rep a = true) ∧ t.sum = sumV t.obj t.rep D % 1000000 := by
    intro t
    show t ∈ talTwo s1.know s2.know s1.tallies s2.tallies ↔ _
    rw [talTwo_mem h1.sok.t3 h2.sok.t3, h1.tal, h2.tal]
    simp only [noMore, more, decide_eq_true_eq]
    rcases Int.lt_or_le (nth s1.know t.rep.toNat) (nth s2.know t.rep.toNat) with g | g
    · have hc := cnt2 (o := t.obj) (r := t.rep) (by omega)
      have e := sumV_same hn h2.nod hc
      rw [e]
      constructor
      · rintro (⟨_, hh⟩ | ⟨⟨⟨a, ha, q⟩, hs⟩, _⟩)
        · omega
        · exact ⟨⟨a, (hc a q).2 ha, q⟩, hs⟩
      · rintro ⟨⟨a, ha, q⟩, hs⟩
        exact .inr ⟨⟨⟨a, (hc a q).1 ha, q⟩, hs⟩, g⟩
    · have hc := cnt1 (o := t.obj) (r := t.rep) g
      have e := sumV_same hn h1.nod hc
      rw [e]
      constructor
      · rintro (⟨⟨⟨a, ha, q⟩, hs⟩, _⟩ | ⟨_, hh⟩)
        · exact ⟨⟨a, (hc a q).2 ha, q⟩, hs⟩
        · omega
      · rintro ⟨⟨a, ha, q⟩, hs⟩
        exact .inl ⟨⟨⟨a, (hc a q).1 ha, q⟩, hs⟩, g⟩
  -- lives
  have no1 : ∀ {x : GLive} {y : GAct}, y ∈ D1 → takes y x → knows s1.know x.dot = true := fun hy ht => knows_in (h1.acts _ hy).2 ht.2.2.1
  have no2 : ∀ {x : GLive} {y : GAct}, y ∈ D2 → takes y x → knows s2.know x.dot = true := fun hy ht => knows_in (h2.acts _ hy).2 ht.2.2.1
  have liv : ∀ x : GLive, x ∈ (mergeRaw s1 s2).lives ↔ (∃ a, a ∈ D ∧ puts a x) ∧ ¬ ∃ y, y ∈ D ∧ takes y x := by
    intro x
    show x ∈ livB s1 s2 s2.lives.length ↔ _
    rw [livB_mem]
    simp only [keepA, newB, Bool.or_eq_true, Bool.not_eq_true', hasX, decide_eq_true_eq]
    constructor
    · rintro (⟨hx, hk⟩ | ⟨hx, hk⟩)
      · obtain ⟨⟨a, ha, hp⟩, hno⟩ := (h1.liv x).1 hx
        refine ⟨⟨a, (hD a).2 (.inl ha), hp⟩, ?_⟩
        rintro ⟨y, hy, ht⟩
        rcases (hD y).1 hy with hy | hy
        · exact hno ⟨y, hy, ht⟩
        · rcases hk with hk | hk
          · rw [no2 hy ht] at hk; cases hk
          · exact ((h2.liv x).1 hk).2 ⟨y, hy, ht⟩
      · obtain ⟨⟨a, ha, hp⟩, hno⟩ := (h2.liv x).1 hx
        refine ⟨⟨a, (hD a).2 (.inr ha), hp⟩, ?_⟩
        rintro ⟨y, hy, ht⟩
        rcases (hD y).1 hy with hy | hy
        · rw [no1 hy ht] at hk; cases hk
        · exact hno ⟨y, hy, ht⟩
    · rintro ⟨⟨a, ha, hp⟩, hno⟩
      have n1 : ¬ ∃ y, y ∈ D1 ∧ takes y x := fun ⟨y, hy, ht⟩ => hno ⟨y, (hD y).2 (.inl hy), ht⟩
      have n2 : ¬ ∃ y, y ∈ D2 ∧ takes y x := fun ⟨y, hy, ht⟩ => hno ⟨y, (hD y).2 (.inr hy), ht⟩
      have hd := puts_dot hp
      have c1 : a ∈ D1 → (x ∈ s1.lives ∧ (knows s2.know x.dot = false ∨ x ∈ s2.lives)) := fun ha => by
        refine ⟨(h1.liv x).2 ⟨⟨a, ha, hp⟩, n1⟩, ?_⟩
        cases hk : knows s2.know x.dot
        · exact .inl rfl
        · right
          rw [hd] at hk
          exact (h2.liv x).2 ⟨⟨a, in2 ha hk, hp⟩, n2⟩
      rcases (hD a).1 ha with ha | ha
      · exact .inl (c1 ha)
      · cases hk : knows s1.know x.dot
        · exact .inr ⟨(h2.liv x).2 ⟨⟨a, ha, hp⟩, n2⟩, rfl⟩
        · rw [hd] at hk
          exact .inl (c1 (in1 ha hk))
  -- cells
  have cut : ∀ d, isCut D d ↔ isCut D1 d ∨ isCut D2 d := fun d => by
    constructor
    · rintro ⟨y, hy, q⟩
      rcases (hD y).1 hy with hy | hy
      · exact .inl ⟨y, hy, q⟩
      · exact .inr ⟨y, hy, q⟩
    · rintro (⟨y, hy, q⟩ | ⟨y, hy, q⟩)
      · exact ⟨y, (hD y).2 (.inl hy), q⟩
      · exact ⟨y, (hD y).2 (.inr hy), q⟩
  have cutk1 : ∀ {d : GDot}, isCut D1 d → knows s1.know d = true := fun {d} ⟨y, hy, q, e⟩ => by
    have := ref_known (h1.acts y hy).1 q
    rw [e] at this
    exact knows_in (h1.acts y hy).2 this
  have cutk2 : ∀ {d : GDot}, isCut D2 d → knows s2.know d = true := fun {d} ⟨y, hy, q, e⟩ => by
    have := ref_known (h2.acts y hy).1 q
    rw [e] at this
    exact knows_in (h2.acts y hy).2 this
  have at2 : ∀ {a : GAct}, a ∈ D2 → a.kind = 6 → ∃ g : Bool, celOf a g ∈ s2.cs ∧ (g = true ↔ isCut D2 a.dot) := fun {a} ha h6 => by
    by_cases q : isCut D2 a.dot
    · exact ⟨true, (h2.cel _).2 ⟨a, ha, h6, rfl, by simpa [celOf] using q⟩, by simpa using q⟩
    · exact ⟨false, (h2.cel _).2 ⟨a, ha, h6, rfl, by simpa [celOf] using q⟩, by simpa using q⟩
  have at1 : ∀ {a : GAct}, a ∈ D1 → a.kind = 6 → ∃ g : Bool, celOf a g ∈ s1.cs ∧ (g = true ↔ isCut D1 a.dot) := fun {a} ha h6 => by
    by_cases q : isCut D1 a.dot
    · exact ⟨true, (h1.cel _).2 ⟨a, ha, h6, rfl, by simpa [celOf] using q⟩, by simpa using q⟩
    · exact ⟨false, (h1.cel _).2 ⟨a, ha, h6, rfl, by simpa [celOf] using q⟩, by simpa using q⟩
  have gin : ∀ {a : GAct}, a ∈ D1 → a.kind = 6 → (goneIn s2.cs a.dot = true ↔ isCut D2 a.dot) := fun {a} ha h6 => by
    rw [goneIn_iff]
    constructor
    · rintro ⟨y, hy, e, g⟩
      obtain ⟨b, hb, _, e2, e3⟩ := (h2.cel y).1 hy
      have e4 : y.dot = b.dot := by rw [e2]; rfl
      rw [← e, e4]
      exact e3.1 g
    · intro hc
      have ha2 := in2 ha (cutk2 hc)
      obtain ⟨g, hg, hgi⟩ := at2 ha2 h6
      exact ⟨_, hg, rfl, hgi.2 hc⟩
  have cel : ∀ c : GCell, c ∈ (mergeRaw s1 s2).cs ↔ ∃ a, a ∈ D ∧ a.kind = 6 ∧ c = celOf a c.gone ∧ (c.gone = true ↔ isCut D a.dot) := by
    intro c
    show c ∈ cellsU s1.cs s2.cs ↔ _
    rw [cellsU_mem]
    constructor
    · rintro (⟨x, hx, rfl⟩ | ⟨hc, hno⟩)
      · obtain ⟨a, ha, h6, e, hg⟩ := (h1.cel x).1 hx
        have ed : x.dot = a.dot := by rw [e]; rfl
        refine ⟨a, (hD a).2 (.inl ha), h6, ?_, ?_⟩
        · rw [e]; rfl
        · simp only [Bool.or_eq_true]
          rw [cut, hg, ed, gin ha h6]
      · obtain ⟨b, hb, h6, e, hg⟩ := (h2.cel c).1 hc
        refine ⟨b, (hD b).2 (.inr hb), h6, e, ?_⟩
        rw [cut, hg]
        constructor
        · exact .inr
        · rintro (q | q)
          · exfalso
            obtain ⟨g, hg1, _⟩ := at1 (in1 hb (cutk1 q)) h6
            have : hasDot s1.cs c.dot = true := hasDot_iff.2 ⟨_, hg1, by rw [e]; rfl⟩
            rw [hno] at this; cases this
          · exact q
    · rintro ⟨a, ha, h6, e, hg⟩
      have one : a ∈ D1 → ∃ x, x ∈ s1.cs ∧ c = { x with gone := x.gone || goneIn s2.cs x.dot } := fun ha => by
        obtain ⟨g, hg1, hg2⟩ := at1 ha h6
        refine ⟨_, hg1, ?_⟩
        have : c.gone = (g || goneIn s2.cs a.dot) := by
          rw [Bool.eq_iff_iff, Bool.or_eq_true, hg, cut, hg2, gin ha h6]
        rw [e, this]; rfl
      rcases (hD a).1 ha with ha1 | ha2
      · exact .inl (one ha1)
      · by_cases hk : knows s1.know a.dot = true
        · exact .inl (one (in1 ha2 hk))
        · right
          refine ⟨(h2.cel c).2 ⟨a, ha2, h6, e, ?_⟩, ?_⟩
          · rw [hg, cut]
            constructor
            · rintro (q | q)
              · exact absurd (cutk1 q) hk
              · exact q
            · exact .inr
          · cases hq : hasDot s1.cs c.dot
            · rfl
            · exfalso
              obtain ⟨x, hx, ex⟩ := hasDot_iff.1 hq
              have := (h1.sok.c2 x hx).1
              rw [ex, e] at this
              exact hk this
  have hacts : ∀ a, a ∈ D → actOk a = true ∧ knowIn a.knew (mergeRaw s1 s2).know = true := fun a ha => by
    rcases (hD a).1 ha with ha | ha
    · obtain ⟨q1, q2⟩ := h1.acts a ha
      obtain ⟨p1, p2, p3⟩ := knowIn_at q2
      refine ⟨q1, knowIn_of p1 km fun j hj => ?_⟩
      show nth a.knew j ≤ nth (knowMax s1.know s2.know) j
      rw [kn j hj]; have := p3 j hj; omega
    · obtain ⟨q1, q2⟩ := h2.acts a ha
      obtain ⟨p1, p2, p3⟩ := knowIn_at q2
      refine ⟨q1, knowIn_of p1 km fun j hj => ?_⟩
      show nth a.knew j ≤ nth (knowMax s1.know s2.know) j
      rw [kn j hj]; have := p3 j hj; omega
  have hknow : ∀ d, knows (mergeRaw s1 s2).know d = true ↔ ∃ a, a ∈ D ∧ a.dot = d := fun d => by
    show knows (knowMax s1.know s2.know) d = true ↔ _
    rw [knows_max k1 k2, h1.know, h2.know]
    constructor
    · rintro (⟨a, ha, e⟩ | ⟨a, ha, e⟩)
      · exact ⟨a, (hD a).2 (.inl ha), e⟩
      · exact ⟨a, (hD a).2 (.inr ha), e⟩
    · rintro ⟨a, ha, e⟩
      rcases (hD a).1 ha with ha | ha
      · exact .inl ⟨a, ha, e⟩
      · exact .inr ⟨a, ha, e⟩
  have lk : ∀ {α : Type} {l : List α} (f : α → GDot), (l.map f).Nodup → (∀ x, x ∈ l → ∃ a, a ∈ D ∧ a.dot = f x) → l.length ≤ 120 := fun {α l} f hnd hx => by
    have := nodup_len (m := D.map (·.dot)) hnd (fun d hd => by
      obtain ⟨x, hm, rfl⟩ := List.mem_map.1 hd
      obtain ⟨a, ha, e⟩ := hx x hm
      exact List.mem_map.2 ⟨a, ha, e⟩)
    simp only [List.length_map] at this
    omega
  have t3 : (mergeRaw s1 s2).tallies.Pairwise fun a b => tallyLt a b = true := (talTwo_perm h1.sok.t3 h2.sok.t3).1
  have l3 : (mergeRaw s1 s2).lives.Pairwise fun a b => liveLt a b = true := (livB_sorted (of_sok h1.sok) (of_sok h2.sok)).1
  have c3 : (mergeRaw s1 s2).cs.Pairwise fun a b => cellLt a b = true := cellsI_sorted h1.sok.c3 h2.sok.c3 _ (Nat.le_refl _)
  have sok : SOK (mergeRaw s1 s2) := by
    refine ⟨km, ?_, fun t ht => ?_, t3, ?_, fun x hx => ?_, l3, ?_, fun c hc => ?_, c3, fun c hc => ?_⟩
    · have hnd : ((mergeRaw s1 s2).tallies.map fun t => (t.obj, t.rep)).Nodup := by
        unfold List.Nodup
        rw [List.pairwise_map]
        refine t3.imp fun {a b} hab e => ?_
        simp only [Prod.mk.injEq] at e
        simp [tallyLt, e.1, e.2, strLt_self] at hab
      have := nodup_len (m := D.map fun a => (a.obj, a.dot.rep)) hnd (fun d hd => by
        obtain ⟨t, ht, rfl⟩ := List.mem_map.1 hd
        obtain ⟨⟨a, ha, hc⟩, _⟩ := (tal t).1 ht
        simp only [counts, decide_eq_true_eq] at hc
        exact List.mem_map.2 ⟨a, ha, by rw [hc.2.1, hc.2.2]⟩)
      simp only [List.length_map] at this
      omega
    · rcases (talTwo_mem h1.sok.t3 h2.sok.t3).1 ht with ⟨q, _⟩ | ⟨q, _⟩
      · exact h1.sok.t2 t q
      · exact h2.sok.t2 t q
    · refine lk (·.dot) (pw_nodup before_Lt (by rw [List.pairwise_map]; exact l3)) fun x hx => ?_
      obtain ⟨⟨a, ha, hp⟩, _⟩ := (liv x).1 hx
      exact ⟨a, ha, (puts_dot hp).symm⟩
    · rcases livB_mem.1 hx with ⟨q, _⟩ | ⟨q, _⟩
      · obtain ⟨r1, r2⟩ := h1.sok.l2 x q
        exact ⟨(knows_max k1 k2 _).2 (.inl r1), r2⟩
      · obtain ⟨r1, r2⟩ := h2.sok.l2 x q
        exact ⟨(knows_max k1 k2 _).2 (.inr r1), r2⟩
    · refine lk (·.dot) (pw_nodup before_Lt (by rw [List.pairwise_map]; exact c3)) fun x hx => ?_
      obtain ⟨a, ha, _, e, _⟩ := (cel x).1 hx
      exact ⟨a, ha, by rw [e]; rfl⟩
    · rcases cellsU_mem.1 hc with ⟨x, q, rfl⟩ | ⟨q, _⟩
      · obtain ⟨r1, r2⟩ := h1.sok.c2 x q
        exact ⟨(knows_max k1 k2 _).2 (.inl r1), r2⟩
      · obtain ⟨r1, r2⟩ := h2.sok.c2 c q
        exact ⟨(knows_max k1 k2 _).2 (.inr r1), r2⟩
    · have there1 : ∀ y, y ∈ s1.cs → ∃ z, z ∈ (mergeRaw s1 s2).cs ∧ z.dot = y.dot ∧ z.obj = y.obj ∧ z.time = y.time := fun y hy => ⟨_, cellsU_mem.2 (.inl ⟨y, hy, rfl⟩), rfl, rfl, rfl⟩
      have there2 : ∀ y, y ∈ s2.cs → ∃ z, z ∈ (mergeRaw s1 s2).cs ∧ z.dot = y.dot ∧ z.obj = y.obj ∧ z.time = y.time := fun y hy => by
        cases hq : hasDot s1.cs y.dot
        · exact ⟨y, cellsU_mem.2 (.inr ⟨hy, hq⟩), rfl, rfl, rfl⟩
        · obtain ⟨x, hx, ex⟩ := hasDot_iff.1 hq
          obtain ⟨z, z1, z2, z3, z4⟩ := there1 x hx
          obtain ⟨a, ha, _, e1, _⟩ := (h1.cel x).1 hx
          obtain ⟨b, hb, _, e2, _⟩ := (h2.cel y).1 hy
          have hab : a = b := same ha hb (by
            have q1 : x.dot = a.dot := by rw [e1]; rfl
            have q2 : y.dot = b.dot := by rw [e2]; rfl
            rw [← q1, ← q2, ex])
          refine ⟨z, z1, by rw [z2, ex], ?_, ?_⟩
          · rw [z3, e1, e2, hab]; rfl
          · rw [z4, e1, e2, hab]; rfl
      rcases cellsU_mem.1 hc with ⟨x, q, rfl⟩ | ⟨q, _⟩
      · rcases h1.sok.c4 x q with e | ⟨y, hy, y1, y2, y3⟩
        · exact .inl e
        · obtain ⟨z, z1, z2, z3, z4⟩ := there1 y hy
          exact .inr ⟨z, z1, by rw [z2, y1], by rw [z3, y2], by rw [z4]; exact y3⟩
      · rcases h2.sok.c4 c q with e | ⟨y, hy, y1, y2, y3⟩
        · exact .inl e
        · obtain ⟨z, z1, z2, z3, z4⟩ := there2 y hy
          exact .inr ⟨z, z1, by rw [z2, y1], by rw [z3, y2], by rw [z4]; exact y3⟩
  exact ⟨sok, hknow, tal, liv, cel, hacts, hn⟩
theorem canon_merge {D1 D2 D : List GAct} {s1 s2 : GState} (h1 : Canon D1 s1) (h2 : Canon D2 s2) (hD : ∀ a, a ∈ D ↔ a ∈ D1 ∨ a ∈ D2) (hn : (D.map (·.dot)).Nodup) (hl : D.length ≤ 120) : mergeState s1 s2 = mergeRaw s1 s2 ∧ Canon D (mergeState s1 s2) := by
  have hc := canon_mergeRaw h1 h2 hD hn hl
  have e : mergeState s1 s2 = mergeRaw s1 s2 := by
    unfold mergeState
    rw [if_pos (by rw [of_sok h1.sok, of_sok h2.sok]; rfl), if_pos (of_sok hc.sok)]
  exact ⟨e, by rw [e]; exact hc⟩
end Am
namespace Am
open Go
set_option linter.unusedSimpArgs false
set_option linter.unusedVariables false

theorem canon_eq {D D' : List GAct} {s s' : GState} (h : Canon D s) (h' : Canon D' s') (hm : ∀ x, x ∈ D ↔ x ∈ D') : s = s' :=
  canon_uniq h h' (perm_of h.nod h'.nod hm)
/-- Acts with the same dot are the same. -/
def Fits (D1 D2 : List GAct) : Prop := ∀ a b, a ∈ D1 → b ∈ D2 → a.dot = b.dot → a = b
theorem fits_union {D1 D2 : List GAct} (h1 : (D1.map (·.dot)).Nodup) (h2 : (D2.map (·.dot)).Nodup) (hf : Fits D1 D2) : ∃ D : List GAct, (∀ a, a ∈ D ↔ a ∈ D1 ∨ a ∈ D2) ∧ (D.map (·.dot)).Nodup ∧ D.length ≤ D1.length + D2.length := by
  classical
  refine ⟨D1 ++ D2.filter (fun x => decide (¬ x ∈ D1)), fun a => ?_, ?_, ?_⟩
  · rw [List.mem_append, List.mem_filter, decide_eq_true_eq]
    constructor
    · rintro (h | ⟨h, _⟩)
      · exact .inl h
      · exact .inr h
    · rintro (h | h)
      · exact .inl h
      · by_cases q : a ∈ D1
        · exact .inl q
        · exact .inr ⟨h, q⟩
  · rw [List.map_append, List.nodup_append]
    refine ⟨h1, h2.sublist (List.filter_sublist.map _), fun d hd e he heq => ?_⟩
    obtain ⟨a, ha, rfl⟩ := List.mem_map.1 hd
    obtain ⟨b, hb, rfl⟩ := List.mem_map.1 he
    rw [List.mem_filter, decide_eq_true_eq] at hb
    rw [← hf a b ha hb.1 heq] at hb
    exact hb.2 ha
  · rw [List.length_append]
    have := List.length_filter_le (fun x => decide (¬ x ∈ D1)) D2
    omega
theorem fits_sub {D0 D : List GAct} (h : (D.map (·.dot)).Nodup) (hs : ∀ a, a ∈ D0 → a ∈ D) : Fits D0 D := fun a b ha hb e => nodup_inj h (hs a ha) hb e
/-- Put together: what all of them come to. -/
theorem merge_all {D1 D2 : List GAct} {s1 s2 : GState} (h1 : Canon D1 s1) (h2 : Canon D2 s2) (hf : Fits D1 D2) (hl : D1.length + D2.length ≤ 120) : ∃ D, (∀ a, a ∈ D ↔ a ∈ D1 ∨ a ∈ D2) ∧ D.length ≤ D1.length + D2.length ∧ Canon D (mergeState s1 s2) ∧ mergeState s1 s2 = mergeRaw s1 s2 := by
  obtain ⟨D, q1, q2, q3⟩ := fits_union h1.nod h2.nod hf
  obtain ⟨c1, c2⟩ := canon_merge h1 h2 q1 q2 (by omega)
  exact ⟨D, q1, q3, c2, c1⟩
theorem merge_sub {D1 D2 : List GAct} {s1 s2 : GState} (h1 : Canon D1 s1) (h2 : Canon D2 s2) (hs : ∀ a, a ∈ D1 → a ∈ D2) (hl : D1.length + D2.length ≤ 120) : mergeState s1 s2 = s2 := by
  obtain ⟨D, q1, q2, q3, _⟩ := merge_all h1 h2 (fits_sub h2.nod hs) hl
  refine canon_eq q3 h2 fun x => ?_
  rw [q1]
  constructor
  · rintro (h | h)
    · exact hs x h
    · exact h
  · exact .inr
theorem behind_sub {D1 D2 : List GAct} {s1 s2 : GState} (h1 : Canon D1 s1) (h2 : Canon D2 s2) (hs : ∀ a, a ∈ D1 → a ∈ D2) (hl : D1.length + D2.length ≤ 120) : behind s1 s2 = true := by
  unfold behind
  rw [of_sok h1.sok, of_sok h2.sok, merge_sub h1 h2 hs hl]
  simp
/-- Two states that grew from one, each by acts of its own. -/
structure Two (p a b : GState) (D0 D1 D2 : List GAct) : Prop where
  c0 : Canon D0 p
  c1 : Canon D1 a
  c2 : Canon D2 b
  s1 : ∀ x, x ∈ D0 → x ∈ D1
  s2 : ∀ x, x ∈ D0 → x ∈ D2
  r1 : ∀ x, x ∈ D1 → x ∈ D0 ∨ x.dot.rep = 0
  r2 : ∀ x, x ∈ D2 → x ∈ D0 ∨ x.dot.rep = 1
  l0 : D0.length ≤ 20
  l1 : D1.length ≤ 30
  l2 : D2.length ≤ 30
theorem know_sub {D1 D2 : List GAct} {s1 s2 : GState} (h1 : Canon D1 s1) (h2 : Canon D2 s2) (hs : ∀ x, x ∈ D1 → x ∈ D2) : knowIn s1.know s2.know = true := by
  have hk := h1.sok.k
  have := know_le h1.sok.k h2.sok.k (fun d hd => by
    obtain ⟨a, ha, e⟩ := (h1.know d).1 hd
    exact (h2.know d).2 ⟨a, hs a ha, e⟩)
  refine knowIn_of h1.sok.k h2.sok.k fun j hj => this j ?_
  simp only [knowOk, Bool.and_eq_true, decide_eq_true_eq] at hk
  omega
end Am
namespace Am
open Go
set_option linter.unusedSimpArgs false
set_option linter.unusedVariables false

/-- The greatest time. -/
def timeK (l : List GCell) : Nat → Int
  | 0 => 0
  | i + 1 => if timeK l i < (nth l i).time then (nth l i).time else timeK l i
def timeOf (s : GState) : Int := timeK s.cs s.cs.length
theorem timeK_ge (l : List GCell) : ∀ i (j : Nat), j < i → (nth l j).time ≤ timeK l i
  | i + 1, j, h => by
    rw [timeK]
    by_cases e : j = i
    · subst e; split <;> omega
    · have := timeK_ge l i j (by omega)
      split <;> omega
theorem timeK_bd (l : List GCell) {m : Int} (hm : 0 ≤ m) (h : ∀ x, x ∈ l → x.time ≤ m) : ∀ i : Nat, i ≤ l.length → 0 ≤ timeK l i ∧ timeK l i ≤ m
  | 0, _ => by simp only [timeK]; omega
  | i + 1, hi => by
    have h1 := timeK_bd l hm h i (by omega)
    have h2 := h _ (nth_mem (show i < l.length by omega))
    rw [timeK]
    split <;> omega
theorem timeOf_bd {s : GState} (h : SOK s) : 0 ≤ timeOf s ∧ timeOf s ≤ 10000 :=
  timeK_bd s.cs (by omega) (fun x hx => by
    have := (h.c2 x hx).2
    simp only [cellOk', cellOk, spIn, Bool.and_eq_true, decide_eq_true_eq] at this
    omega) s.cs.length (Nat.le_refl _)
theorem actOf_cases (s : GState) (rep time : Int) (e : GEdit) : ((actOf s rep time e).2 = 0 ∧ actPre s rep time e = true ∧ (actPlace s e).2 = true ∧ actOk (actRaw s rep time e) = true ∧ (actOf s rep time e).1 = actRaw s rep time e) ∨ (¬ (actOf s rep time e).2 = 0 ∧ (actOf s rep time e).1 = zeroAct) := by
  unfold actOf
  cases h1 : actPre s rep time e
  · simp
  cases h2 : (actPlace s e).2
  · simp
  cases h3 : actOk (actRaw s rep time e)
  · simp
  · simp
end Am
namespace Am
open Go
set_option linter.unusedSimpArgs false
set_option linter.unusedVariables false

/-- Each act was made where no more was known than what stands ahead of it. -/
def made (l : List GAct) : Prop := ∀ i : Nat, i < l.length → ∃ D0 s0, Canon D0 s0 ∧ Done s0 (nth l i) ∧ (nth l i).knew = s0.know ∧ ∀ b, b ∈ D0 → ∃ j : Nat, j < i ∧ b = nth l j
theorem nth_l {l : List GAct} {a : GAct} {i : Nat} (h : i < l.length) : nth (l ++ [a]) i = nth l i := by
  unfold nth
  rw [List.getD_eq_getElem?_getD, List.getD_eq_getElem?_getD, List.getElem?_append_left h]
theorem nth_at {l : List GAct} {a : GAct} : nth (l ++ [a]) l.length = a := by
  unfold nth
  rw [List.getD_eq_getElem?_getD, List.getElem?_append_right (Nat.le_refl _)]
  simp
theorem made_snoc {l : List GAct} (h : made l) {a : GAct} {D0 : List GAct} {s0 : GState} (h0 : Canon D0 s0) (hd : Done s0 a) (hk : a.knew = s0.know) (hs : ∀ b, b ∈ D0 → b ∈ l) : made (l ++ [a]) := by
  intro i hi
  rw [List.length_append, List.length_singleton] at hi
  rcases Nat.lt_or_ge i l.length with h1 | h1
  · rw [nth_l h1]
    obtain ⟨D, s, q1, q2, q3, q4⟩ := h i h1
    refine ⟨D, s, q1, q2, q3, fun b hb => ?_⟩
    obtain ⟨j, hj, e⟩ := q4 b hb
    exact ⟨j, hj, by rw [nth_l (by omega), e]⟩
  · have ei : i = l.length := by omega
    subst ei
    rw [nth_at]
    refine ⟨D0, s0, h0, hd, hk, fun b hb => ?_⟩
    obtain ⟨j, hj, e⟩ := mem_nth (hs b hb)
    exact ⟨j, hj, by rw [nth_l hj, e]⟩
theorem actOf_knewS {s : GState} {rep time : Int} {e : GEdit} (h : (actOf s rep time e).2 = 0) : (actOf s rep time e).1.knew = s.know := by
  rcases actOf_cases s rep time e with ⟨_, _, _, _, h4⟩ | ⟨h1, _⟩
  · rw [h4]; rfl
  · exact absurd h h1
theorem whole_nod {acts : List GAct} (hw : whole acts) : (acts.map (·.dot)).Nodup := by
  have hW := canon_whole hw acts.length (Nat.le_refl _)
  rw [List.take_length] at hW
  have := hW.nod
  rw [List.map_reverse] at this
  exact (List.pairwise_reverse.1 this).imp fun {a b} hab e => hab e.symm
end Am
namespace Am
open Go
set_option linter.unusedSimpArgs false
set_option linter.unusedVariables false

theorem done_time {s : GState} {a : GAct} (hd : Done s a) {x : GCell} (hx : x ∈ (doneAct s a).cs) : (∃ y, y ∈ s.cs ∧ y.time = x.time) ∨ x.time = a.time := by
  unfold doneAct at hx
  simp only at hx
  repeat' split at hx
  · exact .inl ⟨x, hx, rfl⟩
  · exact .inl ⟨x, hx, rfl⟩
  · exact .inl ⟨x, hx, rfl⟩
  · exact .inl ⟨x, hx, rfl⟩
  · exact .inl ⟨x, hx, rfl⟩
  · rcases insF_mem.1 hx with rfl | hx
    · exact .inr rfl
    · exact .inl ⟨x, hx, rfl⟩
  · rename_i h7
    rcases set_mem hx with rfl | hx
    · left
      have hF := actF_of (of_sok hd.s0) hd.a0 hd.r
      have k7 : a.kind = 7 := by
        have := hF.k1
        have := hF.k7
        omega
      obtain ⟨j, hj, e⟩ := hF.ref k7
      refine ⟨nth s.cs (refAtI s a), nth_mem ?_, rfl⟩
      unfold refAtI; rw [e]; omega
    · exact .inl ⟨x, hx, rfl⟩
theorem timeOf_le {s : GState} {m : Int} (hm : 0 ≤ m) (h : ∀ x, x ∈ s.cs → x.time ≤ m) : timeOf s ≤ m := (timeK_bd s.cs hm h s.cs.length (Nat.le_refl _)).2
theorem time_le {s : GState} {x : GCell} (h : x ∈ s.cs) : x.time ≤ timeOf s := by
  obtain ⟨j, hj, rfl⟩ := mem_nth h
  exact timeK_ge s.cs s.cs.length j hj
end Am
namespace Am
open Go
set_option linter.unusedSimpArgs false
set_option linter.unusedVariables false

theorem actOf_ok {s : GState} {rep time : Int} {e : GEdit} (hs : s.Ok) (h1 : e.obj.size ≤ 1073741824) (h2 : e.key.size ≤ 1073741824) : (actOf s rep time e).1.Ok := by
  unfold actOf
  split
  · simp only [zeroAct, GAct.Ok]; exact ⟨by simp, Nat.zero_le _, Nat.zero_le _⟩
  split
  · simp only [zeroAct, GAct.Ok]; exact ⟨by simp, Nat.zero_le _, Nat.zero_le _⟩
  split
  · simp only [zeroAct, GAct.Ok]; exact ⟨by simp, Nat.zero_le _, Nat.zero_le _⟩
  · simp only [GState.Ok] at hs
    simp only [GAct.Ok]; exact ⟨hs.1, h1, h2⟩
theorem nameOk_size {s : ByteArray} (h : nameOk s = true) : s.size ≤ 8 := by
  simp only [nameOk, spIn, Bool.and_eq_true, decide_eq_true_eq] at h
  omega
theorem sok_Ok {s : GState} (h : SOK s) : s.Ok := by
  have hk := h.k
  have h1 := h.t1
  have h2 := h.l1
  have h3 := h.c1
  simp only [knowOk, Bool.and_eq_true, decide_eq_true_eq] at hk
  simp only [GState.Ok]
  refine ⟨by omega, by omega, fun y hy => ?_, by omega, fun y hy => ?_, by omega, fun y hy => ?_⟩
  · have := h.t2 y hy
    simp only [tallyOk, Bool.and_eq_true] at this
    simp only [GTally.Ok]
    have := nameOk_size this.1.1
    omega
  · have := (h.l2 y hy).2
    simp only [liveOk, Bool.and_eq_true] at this
    simp only [GLive.Ok]
    have h4 := nameOk_size this.1.1.1
    have h5 := nameOk_size this.1.1.2
    omega
  · have := (h.c2 y hy).2
    simp only [cellOk', Bool.and_eq_true] at this
    simp only [GCell.Ok]
    have := nameOk_size this.1.1
    omega
end Am
