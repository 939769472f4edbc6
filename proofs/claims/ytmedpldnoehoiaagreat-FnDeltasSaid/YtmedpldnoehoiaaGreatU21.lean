/- What changed, done: what both become. No condition. -/
import Derived.Test.YtmedpldnoehoiaaGreatD
import Derived.Test.YtmedpldnoehoiaaGreatV7
import Derived.Test.YtmedpldnoehoiaaGreatE9
import Derived.Test.YtmedpldnoehoiaaGreatE63
namespace Am
open Go
set_option linter.unusedSimpArgs false
set_option linter.unusedVariables false

theorem cons_of {α : Type} [Cel α] {l : List α} {lt : α → α → Bool} (hp : l.Pairwise (fun a b => lt a b = true)) (i : Nat) (hi : i < l.length) : i = 0 ∨ lt (nth l (i - 1)) (nth l i) = true := by
  rcases Nat.eq_zero_or_pos i with h0 | h0
  · exact .inl h0
  · exact .inr (pw_nth hp (by omega) hi)
theorem tals_of {l : List GTally} (h1 : l.length ≤ 120) (h2 : ∀ t, t ∈ l → tallyOk t = true) (h3 : l.Pairwise fun a b => tallyLt a b = true) : talliesOk l = true := by
  simp only [talliesOk, Bool.and_eq_true, decide_eq_true_eq]
  refine ⟨h1, allB_iff.2 fun i hi => ?_⟩
  simp only [talAt, Bool.and_eq_true, Bool.or_eq_true, decide_eq_true_eq]
  exact ⟨h2 _ (nth_mem hi), cons_of h3 i hi⟩
theorem livKs_of {l : List GLive} {k : List Int} (h1 : l.length ≤ 120) (h2 : ∀ t, t ∈ l → knows k t.dot = true ∧ liveOk t = true) (h3 : l.Pairwise fun a b => liveLt a b = true) : livKsOk l k = true := by
  simp only [livKsOk, Bool.and_eq_true, decide_eq_true_eq]
  refine ⟨h1, allB_iff.2 fun i hi => ?_⟩
  simp only [livKAt, Bool.and_eq_true, Bool.or_eq_true, decide_eq_true_eq]
  exact ⟨h2 _ (nth_mem hi), cons_of h3 i hi⟩
theorem celKs_of {l : List GCell} {k : List Int} (h1 : l.length ≤ 120) (h2 : ∀ t, t ∈ l → knows k t.dot = true ∧ cellOk' t = true) (h3 : l.Pairwise fun a b => cellLt a b = true) : celKsOk l k = true := by
  simp only [celKsOk, Bool.and_eq_true, decide_eq_true_eq]
  refine ⟨h1, allB_iff.2 fun i hi => ?_⟩
  simp only [celKAt, Bool.and_eq_true, Bool.or_eq_true, decide_eq_true_eq]
  exact ⟨h2 _ (nth_mem hi), cons_of h3 i hi⟩
theorem deadK_eq (c : GState) (l : List GLive) : ∀ n : Nat, n ≤ l.length → deadK c l n = ((l.take n).filter fun x => !hasX c.lives x).map (·.dot)
  | 0, _ => by simp [deadK]
  | n + 1, hn => by
    rw [deadK, deadK_eq c l n (by omega), take_snoc (by omega)]
    cases h : hasX c.lives (nth l n)
    · simp [h]
    · simp [h]
theorem dead_mem {c p : GState} {d : GDot} : d ∈ (deltaRaw p c).dead ↔ ∃ z, z ∈ p.lives ∧ ¬ z ∈ c.lives ∧ z.dot = d := by
  show d ∈ deadK c p.lives p.lives.length ↔ _
  rw [deadK_eq _ _ _ (Nat.le_refl _), List.take_length, List.mem_map]
  constructor
  · rintro ⟨z, hz, e⟩
    rw [List.mem_filter] at hz
    refine ⟨z, hz.1, ?_, e⟩
    have := hz.2
    simpa [hasX] using this
  · rintro ⟨z, h1, h2, e⟩
    exact ⟨z, List.mem_filter.2 ⟨h1, by simpa [hasX] using h2⟩, e⟩
theorem dtal_mem {p c : GState} {t : GTally} : t ∈ (deltaRaw p c).tallies ↔ t ∈ c.tallies ∧ more p.know c.know t = true := by
  show t ∈ filK (more p.know c.know) [] c.tallies c.tallies.length ↔ _
  rw [filK_filter _ _ _ (Nat.le_refl _), List.take_length, List.mem_filter]
theorem dliv_mem {p c : GState} {t : GLive} : t ∈ (deltaRaw p c).lives ↔ t ∈ c.lives ∧ newB p t = true := by
  show t ∈ filK (newB p) [] c.lives c.lives.length ↔ _
  rw [filK_filter _ _ _ (Nat.le_refl _), List.take_length, List.mem_filter]
theorem dcel_mem {p c : GState} {t : GCell} : t ∈ (deltaRaw p c).cs ↔ t ∈ c.cs ∧ newC p t = true := by
  show t ∈ filK (newC p) [] c.cs c.cs.length ↔ _
  rw [filK_filter _ _ _ (Nat.le_refl _), List.take_length, List.mem_filter]
theorem dtal_pw {p c : GState} (h : SOK c) : (deltaRaw p c).tallies.Pairwise fun a b => tallyLt a b = true := by
  show (filK (more p.know c.know) [] c.tallies c.tallies.length).Pairwise _
  rw [filK_filter _ _ _ (Nat.le_refl _), List.take_length]; exact h.t3.filter _
theorem dliv_pw {p c : GState} (h : SOK c) : (deltaRaw p c).lives.Pairwise fun a b => liveLt a b = true := by
  show (filK (newB p) [] c.lives c.lives.length).Pairwise _
  rw [filK_filter _ _ _ (Nat.le_refl _), List.take_length]; exact h.l3.filter _
theorem dcel_pw {p c : GState} (h : SOK c) : (deltaRaw p c).cs.Pairwise fun a b => cellLt a b = true := by
  show (filK (newC p) [] c.cs c.cs.length).Pairwise _
  rw [filK_filter _ _ _ (Nat.le_refl _), List.take_length]; exact h.c3.filter _
theorem dead_pw {p c : GState} (h : SOK p) : (deltaRaw p c).dead.Pairwise fun a b => before a b = true := by
  show (deadK c p.lives p.lives.length).Pairwise _
  rw [deadK_eq _ _ _ (Nat.le_refl _), List.take_length, List.pairwise_map]
  exact h.l3.filter _
/-- What changed is right. -/
theorem delta_right {Dp Dc : List GAct} {p c : GState} (hp : Canon Dp p) (hc : Canon Dc c) (pc : ∀ a, a ∈ Dp → a ∈ Dc) : deltaOk (deltaRaw p c) = true := by
  have lt := dTal_len p c c.tallies.length
  have ll := dLivs_len p c c.lives.length
  have lc := dCels_len p c c.cs.length
  have ld := deadK_len c p.lives p.lives.length
  have z1 := hc.sok.t1
  have z2 := hc.sok.l1
  have z3 := hc.sok.c1
  have z4 := hp.sok.l1
  simp only [deltaOk, Bool.and_eq_true, decide_eq_true_eq]
  refine ⟨⟨⟨⟨⟨⟨⟨know_sub hp hc pc, tals_of (by show (dTal p c c.tallies.length).length ≤ 120; omega) (fun t ht => hc.sok.t2 t (dtal_mem.1 ht).1) (dtal_pw hc.sok)⟩, livKs_of (by show (dLivs p c c.lives.length).length ≤ 120; omega) (fun t ht => hc.sok.l2 t (dliv_mem.1 ht).1) (dliv_pw hc.sok)⟩, celKs_of (by show (dCels p c c.cs.length).length ≤ 120; omega) (fun t ht => hc.sok.c2 t (dcel_mem.1 ht).1) (dcel_pw hc.sok)⟩, by show (deadK c p.lives p.lives.length).length ≤ 120; omega⟩, allB_iff.2 fun i hi => ?_⟩, allB_iff.2 fun i hi => ?_⟩, allB_iff.2 fun i hi => ?_⟩
  · have := (dliv_mem.1 (nth_mem hi)).2
    exact this
  · obtain ⟨z, h1, h2, h3⟩ := dead_mem.1 (nth_mem hi)
    simp only [eDead, Bool.and_eq_true, Bool.or_eq_true, decide_eq_true_eq]
    refine ⟨?_, cons_of (dead_pw hp.sok) i hi⟩
    rw [← h3]; exact (hp.sok.l2 z h1).1
  · have hm := (dcel_mem.1 (nth_mem hi)).1
    simp only [eCel, Bool.or_eq_true, Bool.and_eq_true, beq_iff_eq]
    rcases hc.sok.c4 _ hm with e | ⟨y, hy, e, _, _⟩
    · left; rw [e]; exact ⟨rfl, rfl⟩
    · right
      have := (hc.sok.c2 y hy).1
      rw [e] at this
      simp only [knows, Bool.and_eq_true] at this
      exact this.1.2
theorem know_le_of {D1 D2 : List GAct} {s1 s2 : GState} (h1 : Canon D1 s1) (h2 : Canon D2 s2) (hs : ∀ x, x ∈ D1 → x ∈ D2) {d : GDot} (h : knows s1.know d = true) : knows s2.know d = true := by
  obtain ⟨a, ha, e⟩ := (h1.know d).1 h
  exact (h2.know d).2 ⟨a, hs a ha, e⟩
theorem puts_one {a : GAct} {x y : GLive} (hx : puts a x) (hy : puts a y) : x = y := by
  rcases hx with ⟨k, e⟩ | ⟨k, e⟩ <;> rcases hy with ⟨k', e'⟩ | ⟨k', e'⟩
  · rw [e, e']
  · omega
  · omega
  · rw [e, e']
/-- .. done to what knows all that was known: what both become. -/
theorem delta_is {Dp Dc Ds : List GAct} {p c s : GState} (hp : Canon Dp p) (hc : Canon Dc c) (hs : Canon Ds s) (pc : ∀ a, a ∈ Dp → a ∈ Dc) (ps : ∀ a, a ∈ Dp → a ∈ Ds) : doneRaw s (deltaRaw p c) = mergeRaw s c := by
  have hd := delta_right hp hc pc
  have hF := deltaOk_F hd
  have kpc : ∀ {d}, knows p.know d = true → knows c.know d = true := fun h => know_le_of hp hc pc h
  have kps : ∀ {d}, knows p.know d = true → knows s.know d = true := fun h => know_le_of hp hs ps h
  have kle := know_sub hp hs ps
  obtain ⟨_, _, kn⟩ := knowIn_at kle
  have e1 : talTwo s.know c.know s.tallies (deltaRaw p c).tallies = talTwo s.know c.know s.tallies c.tallies := by
    refine lt_uniq2 tallyLt_Lt (talTwo_perm hs.sok.t3 (dtal_pw hc.sok)).1 (talTwo_perm hs.sok.t3 hc.sok.t3).1 fun t => ?_
    rw [talTwo_mem hs.sok.t3 (dtal_pw hc.sok), talTwo_mem hs.sok.t3 hc.sok.t3, dtal_mem]
    constructor
    · rintro (h | ⟨⟨h1, _⟩, h2⟩)
      · exact .inl h
      · exact .inr ⟨h1, h2⟩
    · rintro (h | ⟨h1, h2⟩)
      · exact .inl h
      · refine .inr ⟨⟨h1, ?_⟩, h2⟩
        have ht := hc.sok.t2 t h1
        simp only [tallyOk, spIn, Bool.and_eq_true, decide_eq_true_eq] at ht
        have := kn t.rep.toNat (by omega)
        simp only [more, decide_eq_true_eq] at h2 ⊢
        omega
  have e2 : dB s (deltaRaw p c) (deltaRaw p c).lives.length = livB s c c.lives.length := by
    refine lt_uniq2 liveLt_Lt (dB_sorted (of_sok hs.sok) hF).1 (livB_sorted (of_sok hs.sok) (of_sok hc.sok)).1 fun x => ?_
    rw [(dB_sorted (of_sok hs.sok) hF).2.mem_iff, filK_mem (Nat.le_refl _), livB_mem]
    have eA : x ∈ dA s (deltaRaw p c) s.lives.length ↔ x ∈ s.lives ∧ keepD (deltaRaw p c) x = true := by
      unfold dA
      rw [filK_filter _ _ _ (Nat.le_refl _), List.take_length, List.mem_filter]
    have eN : (∃ i, i < (deltaRaw p c).lives.length ∧ nth (deltaRaw p c).lives i = x ∧ newB s x = true) ↔ x ∈ c.lives ∧ newB s x = true := by
      constructor
      · rintro ⟨i, hi, rfl, h⟩
        exact ⟨(dliv_mem.1 (nth_mem hi)).1, h⟩
      · rintro ⟨h1, h2⟩
        have hm : x ∈ (deltaRaw p c).lives := dliv_mem.2 ⟨h1, by
          simp only [newB, Bool.not_eq_true'] at h2 ⊢
          cases hq : knows p.know x.dot
          · rfl
          · rw [kps hq] at h2; cases h2⟩
        obtain ⟨i, hi, e⟩ := mem_nth hm
        exact ⟨i, hi, e, h2⟩
    rw [eA, eN]
    have key : x ∈ s.lives → (keepD (deltaRaw p c) x = true ↔ keepA c x = true) := fun hx => by
      have hkd : (deltaRaw p c).know = c.know := rfl
      have hbd : (deltaRaw p c).base = p.know := rfl
      have hdead : hasX (deltaRaw p c).dead x.dot = true ↔ ∃ z, z ∈ p.lives ∧ ¬ z ∈ c.lives ∧ z.dot = x.dot := by
        simp only [hasX, decide_eq_true_eq]; exact dead_mem
      simp only [keepD, goneL, hkd, hbd, keepA, Bool.and_eq_true, Bool.or_eq_true, Bool.not_eq_true']
      cases q1 : knows c.know x.dot
      · have nd : hasX (deltaRaw p c).dead x.dot = false := by
          rw [Bool.eq_false_iff, Ne, hdead]
          rintro ⟨z, h1, _, e⟩
          have := kpc (hp.sok.l2 z h1).1
          rw [e, q1] at this; cases this
        simp [nd]
      · cases q2 : knows p.know x.dot
        · have nd : hasX (deltaRaw p c).dead x.dot = false := by
            rw [Bool.eq_false_iff, Ne, hdead]
            rintro ⟨z, h1, _, e⟩
            have := (hp.sok.l2 z h1).1
            rw [e, q2] at this; cases this
          have hl : hasX (deltaRaw p c).lives x = hasX c.lives x := by
            rw [Bool.eq_iff_iff]
            simp only [hasX, decide_eq_true_eq]
            rw [dliv_mem]
            simp [newB, q2]
          simp [nd, hl]
        · -- known before
          obtain ⟨⟨a, ha, hpu⟩, hno⟩ := (hs.liv x).1 hx
          obtain ⟨b, hb, eb⟩ := (hp.know _).1 q2
          have hab : b = a := nodup_inj hs.nod (ps b hb) ha (by rw [eb, puts_dot hpu])
          subst hab
          have hxp : x ∈ p.lives := (hp.liv x).2 ⟨⟨b, hb, hpu⟩, fun ⟨y, hy, ht⟩ => hno ⟨y, ps y hy, ht⟩⟩
          have hx2 : hasX (deltaRaw p c).dead x.dot = !hasX c.lives x := by
            cases q3 : hasX c.lives x
            · rw [Bool.not_false, hdead]
              exact ⟨x, hxp, by simpa [hasX] using q3, rfl⟩
            · rw [Bool.not_true, Bool.eq_false_iff, Ne, hdead]
              rintro ⟨z, h1, h2, e⟩
              obtain ⟨⟨a', ha', hz⟩, _⟩ := (hp.liv z).1 h1
              have : a' = b := nodup_inj hp.nod ha' hb (by rw [← puts_dot hz, e, puts_dot hpu])
              subst this
              rw [puts_one hz hpu] at h2
              exact h2 (by simpa [hasX] using q3)
          rw [hx2]
          cases hasX c.lives x <;> simp
    constructor
    · rintro (⟨h1, h2⟩ | h)
      · exact .inl ⟨h1, (key h1).1 h2⟩
      · exact .inr h
    · rintro (⟨h1, h2⟩ | h)
      · exact .inl ⟨h1, (key h1).2 h2⟩
      · exact .inr h
  have e3 : cellsU s.cs (deltaRaw p c).cs = cellsU s.cs c.cs := by
    refine lt_uniq2 cellLt_Lt (cellsI_sorted hs.sok.c3 (dcel_pw hc.sok) _ (Nat.le_refl _)) (cellsI_sorted hs.sok.c3 hc.sok.c3 _ (Nat.le_refl _)) fun x => ?_
    have there : ∀ y, y ∈ p.cs → ∃ z, z ∈ s.cs ∧ z.dot = y.dot ∧ (y.gone = true → z.gone = true) := fun y hy => by
      obtain ⟨a, ha, h6, e, hg⟩ := (hp.cel y).1 hy
      have ed : y.dot = a.dot := by rw [e]; rfl
      by_cases q : isCut Ds a.dot
      · exact ⟨celOf a true, (hs.cel _).2 ⟨a, ps a ha, h6, rfl, by simpa [celOf] using q⟩, ed.symm, fun _ => rfl⟩
      · refine ⟨celOf a false, (hs.cel _).2 ⟨a, ps a ha, h6, rfl, by simpa [celOf] using q⟩, ed.symm, fun h => ?_⟩
        obtain ⟨y', hy', q'⟩ := hg.1 h
        exact absurd ⟨y', ps y' hy', q'⟩ q
    have isnew : ∀ y, y ∈ c.cs → ¬ newC p y = true → ∃ z, z ∈ p.cs ∧ z.dot = y.dot ∧ (y.gone = true → z.gone = true) := fun y hy hn => by
      simp only [newC, Bool.or_eq_true, decide_eq_true_eq, Bool.and_eq_true, Bool.not_eq_true', not_or, not_and] at hn
      obtain ⟨n1, n2⟩ := hn
      rcases cellAt_cases p.cs y.dot with h | ⟨j, hj, h⟩
      · omega
      · rw [h, Int.toNat_natCast] at n2
        refine ⟨nth p.cs j, nth_mem hj, ?_, fun hg => ?_⟩
        · have := idx_cases (dotIs y.dot) p.cs
          unfold cellAt at h
          rcases this with ⟨i, hi, g1, _, g2⟩ | ⟨_, g2⟩
          · have : i = j := by omega
            subst this
            simpa [dotIs] using g1
          · omega
        · have := n2 hg
          simpa using this
    have gsame : ∀ y, y ∈ s.cs → (y.gone || goneIn (deltaRaw p c).cs y.dot) = (y.gone || goneIn c.cs y.dot) := fun y hy => by
      cases hg : y.gone
      · rw [Bool.false_or, Bool.false_or, Bool.eq_iff_iff, goneIn_iff, goneIn_iff]
        constructor
        · rintro ⟨z, h1, h2⟩; exact ⟨z, (dcel_mem.1 h1).1, h2⟩
        · rintro ⟨z, h1, h2, h3⟩
          by_cases hn : newC p z = true
          · exact ⟨z, dcel_mem.2 ⟨h1, hn⟩, h2, h3⟩
          · exfalso
            obtain ⟨w, w1, w2, w3⟩ := isnew z h1 hn
            obtain ⟨v, v1, v2, v3⟩ := there w w1
            have : v = y := cells_one hs.sok.c3 v1 hy (by rw [v2, w2, h2])
            rw [this] at v3
            rw [v3 (w3 h3)] at hg; cases hg
      · simp
    rw [cellsU_mem, cellsU_mem]
    constructor
    · rintro (⟨y, hy, rfl⟩ | ⟨h1, h2⟩)
      · exact .inl ⟨y, hy, by rw [gsame y hy]⟩
      · exact .inr ⟨(dcel_mem.1 h1).1, h2⟩
    · rintro (⟨y, hy, rfl⟩ | ⟨h1, h2⟩)
      · exact .inl ⟨y, hy, by rw [gsame y hy]⟩
      · refine .inr ⟨dcel_mem.2 ⟨h1, ?_⟩, h2⟩
        cases hn : newC p x
        · exfalso
          obtain ⟨w, w1, w2, _⟩ := isnew x h1 (by simp [hn])
          obtain ⟨v, v1, v2, _⟩ := there w w1
          have : hasDot s.cs x.dot = true := hasDot_iff.2 ⟨v, v1, by rw [v2, w2]⟩
          rw [h2] at this; cases this
        · rfl
  show (⟨knowMax s.know c.know, talTwo s.know c.know s.tallies (deltaRaw p c).tallies, dB s (deltaRaw p c) (deltaRaw p c).lives.length, cellsU s.cs (deltaRaw p c).cs⟩ : GState) = ⟨knowMax s.know c.know, talTwo s.know c.know s.tallies c.tallies, livB s c c.lives.length, cellsU s.cs c.cs⟩
  rw [e1, e2, e3]
theorem delta_of {Dp Dc : List GAct} {p c : GState} (hp : Canon Dp p) (hc : Canon Dc c) (pc : ∀ a, a ∈ Dp → a ∈ Dc) (hl : Dp.length + Dc.length ≤ 120) : deltaOf p c = (deltaRaw p c, true) := by
  unfold deltaOf
  rw [if_pos (behind_sub hp hc pc hl)]
theorem delta_done {Dp Dc Ds : List GAct} {p c s : GState} (hp : Canon Dp p) (hc : Canon Dc c) (hs : Canon Ds s) (pc : ∀ a, a ∈ Dp → a ∈ Dc) (ps : ∀ a, a ∈ Dp → a ∈ Ds) (hf : Fits Ds Dc) (hl : Ds.length + Dc.length ≤ 120) : doDelta s (deltaRaw p c) = if knowIn c.know s.know = true then (s, 1) else (mergeState s c, 0) := by
  obtain ⟨D, q1, q2, q3, q4⟩ := merge_all hs hc hf hl
  have hd := delta_right hp hc pc
  have e := delta_is hp hc hs pc ps
  have hM : SOK (mergeRaw s c) := by rw [← q4]; exact q3.sok
  have htm : tooMany (mergeRaw s c) = false := by
    have h1 := hM.t1
    have h2 := hM.l1
    have h3 := hM.c1
    simp only [tooMany, Bool.or_eq_false_iff, decide_eq_false_iff_not]; omega
  unfold doDelta
  rw [if_neg (by rw [of_sok hs.sok]; simp), if_neg (by rw [hd]; simp)]
  have hk : (deltaRaw p c).know = c.know := rfl
  have hb : (deltaRaw p c).base = p.know := rfl
  rw [hk, hb]
  by_cases q : knowIn c.know s.know = true
  · rw [if_pos q, if_pos q]
  · rw [if_neg q, if_neg q, if_neg (by rw [know_sub hp hs ps]; simp), e, if_neg (by rw [htm]; simp), if_neg (by rw [of_sok hM]; simp), q4]
end Am
namespace Am
open Go
set_option linter.unusedSimpArgs false
set_option linter.unusedVariables false

theorem deltaOf_ok {p c : GState} (hp : p.Ok) (hc : c.Ok) : (deltaOf p c).1.Ok := by
  unfold deltaOf
  split
  · simp only [GState.Ok] at hp hc
    simp only [GDelta.Ok]
    have h1 := dTal_len p c c.tallies.length
    have h2 := dLivs_len p c c.lives.length
    have h3 := deadK_len c p.lives p.lives.length
    have h4 := dCels_len p c c.cs.length
    refine ⟨hp.1, hc.1, ?_, ?_, ?_, ?_, ?_, ?_, ?_⟩
    · simp only [deltaRaw]; omega
    · intro y hy
      rcases (filK_mem (Nat.le_refl _)).1 hy with h | ⟨i, hi, rfl, _⟩
      · cases h
      · exact hc.2.2.1 _ (nth_mem hi)
    · simp only [deltaRaw]; omega
    · intro y hy
      rcases (filK_mem (Nat.le_refl _)).1 hy with h | ⟨i, hi, rfl, _⟩
      · cases h
      · exact hc.2.2.2.2.1 _ (nth_mem hi)
    · simp only [deltaRaw]; omega
    · simp only [deltaRaw]; omega
    · intro y hy
      rcases (filK_mem (Nat.le_refl _)).1 hy with h | ⟨i, hi, rfl, _⟩
      · cases h
      · exact hc.2.2.2.2.2.2 _ (nth_mem hi)
  · simp [noDelta, GDelta.Ok]
theorem doDelta_ok {s : GState} {d : GDelta} (hs : s.Ok) (hd : d.Ok) : (doDelta s d).1.Ok := by
  unfold doDelta
  split
  · exact hs
  rename_i k1
  split
  · exact hs
  rename_i k2
  split
  · exact hs
  split
  · exact hs
  split
  · exact hs
  split
  · exact hs
  · exact doneRaw_ok hs hd (by simpa using k1) (deltaOk_F (by simpa using k2))
theorem deltaOf_two (a b : GState) : (deltaOf a b).2 = behind a b := by
  unfold deltaOf
  split
  · rename_i h; rw [h]
  · rename_i h; simp only [Bool.not_eq_true] at h; rw [h]
theorem two_know {p a b : GState} {D0 D1 D2 : List GAct} (h : Two p a b D0 D1 D2) : (knowIn a.know p.know = true → a = p) ∧ (knowIn a.know b.know = true → a = p) := by
  have eqp : (∀ x, x ∈ D1 → x ∈ D0) → a = p := fun hs => canon_eq h.c1 h.c0 fun x => ⟨hs x, h.s1 x⟩
  refine ⟨fun hk => eqp (know_same h.c1 h.c0 (fits_symm (fits_sub h.c1.nod h.s1)) hk), fun hk => eqp fun x hx => ?_⟩
  have h2 := know_same h.c1 h.c2 h.fits hk x hx
  rcases h.r1 x hx with q | q
  · exact q
  · rcases h.r2 x h2 with q' | q'
    · exact q'
    · omega
theorem two_deltas {p a b : GState} {D0 D1 D2 : List GAct} (h : Two p a b D0 D1 D2) :
    deltaOf p a = (deltaRaw p a, true) ∧ deltaOk (deltaRaw p a) = true ∧ (deltaOf a p).2 = decide (a = p) ∧ (a = p → doDelta p (deltaRaw p a) = (p, 1)) ∧
    (a ≠ p → doDelta p (deltaRaw p a) = (a, 0) ∧ doDelta b (deltaRaw p a) = (mergeState b a, 0) ∧ doDelta (mergeState b a) (deltaRaw p a) = (mergeState b a, 1)) ∧ SOK (mergeState b a) := by
  have l0 := h.l0
  have l1 := h.l1
  have l2 := h.l2
  obtain ⟨D, q1, q2, q3, q4⟩ := merge_all h.c2 h.c1 (fits_symm h.fits) (by omega)
  obtain ⟨k1, k2⟩ := two_know h
  have f0 : Fits D0 D1 := fits_sub h.c1.nod h.s1
  refine ⟨delta_of h.c0 h.c1 h.s1 (by omega), delta_right h.c0 h.c1 h.s1, ?_, fun e => ?_, fun e => ⟨?_, ?_, ?_⟩, q3.sok⟩
  · rw [deltaOf_two]
    unfold behind
    rw [of_sok h.c1.sok, of_sok h.c0.sok, merge_sup h.c1 h.c0 h.s1 (by omega)]
    simp
  · rw [delta_done h.c0 h.c1 h.c0 h.s1 (fun _ hx => hx) f0 (by omega), if_pos]
    rw [e]
    exact know_sub h.c0 h.c0 (fun _ hx => hx)
  · rw [delta_done h.c0 h.c1 h.c0 h.s1 (fun _ hx => hx) f0 (by omega), if_neg (fun hk => e (k1 hk)), merge_sub h.c0 h.c1 h.s1 (by omega)]
  · rw [delta_done h.c0 h.c1 h.c2 h.s1 h.s2 (fits_symm h.fits) (by omega), if_neg (fun hk => e (k2 hk))]
  · have hs : ∀ x, x ∈ D1 → x ∈ D := fun x hx => (q1 x).2 (.inr hx)
    rw [delta_done h.c0 h.c1 q3 h.s1 (fun x hx => hs x (h.s1 x hx)) (fits_symm (fits_sub q3.nod hs)) (by omega), if_pos (know_sub h.c1 q3 hs)]
end Am
