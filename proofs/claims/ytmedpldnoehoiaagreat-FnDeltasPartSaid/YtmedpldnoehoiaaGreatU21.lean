/- What changed, done: what both become. No condition. -/
import Derived.Test.YtmedpldnoehoiaaGreatD
import Derived.Test.YtmedpldnoehoiaaGreatV7
import Derived.Test.YtmedpldnoehoiaaGreatE9
import Derived.Test.YtmedpldnoehoiaaGreatE63
import Derived.Test.YtmedpldnoehoiaaGreatT
import Derived.Test.YtmedpldnoehoiaaGreatE16
namespace Am
open Go
set_option linter.unusedSimpArgs false
set_option linter.unusedVariables false

theorem cons_of {α : Type} [Cel α] {l : List α} {lt : α → α → Bool} (hp : l.Pairwise (fun a b => lt a b = true)) (i : Nat) (hi : i < l.length) : i = 0 ∨ lt (nth l (i - 1)) (nth l i) = true := by
  rcases Nat.eq_zero_or_pos i with h0 | h0
  · exact .inl h0
  · exact .inr (pw_nth hp (by omega) hi)
theorem tals_of {l : List GTally} (h1 : l.length ≤ 120) (h2 : ∀ t, t ∈ l → tallyOk t = true) (h3 : l.Pairwise fun a b => tallyLt a b = true) : talliesOk l = true := by
  simp only [talliesOk, Bool.and_eq_true, decide_eq_true_eq]
  refine ⟨h1, allB_iff.2 fun i hi => ?_⟩
  simp only [talAt, Bool.and_eq_true, Bool.or_eq_true, decide_eq_true_eq]
  exact ⟨h2 _ (nth_mem hi), cons_of h3 i hi⟩
theorem livKs_of {l : List GLive} {k : List Int} (h1 : l.length ≤ 120) (h2 : ∀ t, t ∈ l → knows k t.dot = true ∧ liveOk t = true) (h3 : l.Pairwise fun a b => liveLt a b = true) : livKsOk l k = true := by
  simp only [livKsOk, Bool.and_eq_true, decide_eq_true_eq]
  refine ⟨h1, allB_iff.2 fun i hi => ?_⟩
  simp only [livKAt, Bool.and_eq_true, Bool.or_eq_true, decide_eq_true_eq]
  exact ⟨h2 _ (nth_mem hi), cons_of h3 i hi⟩
theorem celKs_of {l : List GCell} {k : List Int} (h1 : l.length ≤ 120) (h2 : ∀ t, t ∈ l → knows k t.dot = true ∧ cellOk' t = true) (h3 : l.Pairwise fun a b => cellLt a b = true) : celKsOk l k = true := by
  simp only [celKsOk, Bool.and_eq_true, decide_eq_true_eq]
  refine ⟨h1, allB_iff.2 fun i hi => ?_⟩
  simp only [celKAt, Bool.and_eq_true, Bool.or_eq_true, decide_eq_true_eq]
  exact ⟨h2 _ (nth_mem hi), cons_of h3 i hi⟩
theorem deadK_eq (c : GState) (l : List GLive) : ∀ n : Nat, n ≤ l.length → deadK c l n = ((l.take n).filter fun x => !hasX c.lives x).map (·.dot)
  | 0, _ => by simp [deadK]
  | n + 1, hn => by
    rw [deadK, deadK_eq c l n (by omega), take_snoc (by omega)]
    cases h : hasX c.lives (nth l n)
    · simp [h]
    · simp [h]
theorem dead_mem {c p : GState} {d : GDot} : d ∈ (deltaRaw p c).dead ↔ ∃ z, z ∈ p.lives ∧ ¬ z ∈ c.lives ∧ z.dot = d := by
  show d ∈ deadK c p.lives p.lives.length ↔ _
  rw [deadK_eq _ _ _ (Nat.le_refl _), List.take_length, List.mem_map]
  constructor
  · rintro ⟨z, hz, e⟩
    rw [List.mem_filter] at hz
    refine ⟨z, hz.1, ?_, e⟩
    have := hz.2
    simpa [hasX] using this
  · rintro ⟨z, h1, h2, e⟩
    exact ⟨z, List.mem_filter.2 ⟨h1, by simpa [hasX] using h2⟩, e⟩
theorem dtal_mem {p c : GState} {t : GTally} : t ∈ (deltaRaw p c).tallies ↔ t ∈ c.tallies ∧ more p.know c.know t = true := by
  show t ∈ filK (more p.know c.know) [] c.tallies c.tallies.length ↔ _
  rw [filK_filter _ _ _ (Nat.le_refl _), List.take_length, List.mem_filter]
theorem dliv_mem {p c : GState} {t : GLive} : t ∈ (deltaRaw p c).lives ↔ t ∈ c.lives ∧ newB p t = true := by
  show t ∈ filK (newB p) [] c.lives c.lives.length ↔ _
  rw [filK_filter _ _ _ (Nat.le_refl _), List.take_length, List.mem_filter]
theorem dcel_mem {p c : GState} {t : GCell} : t ∈ (deltaRaw p c).cs ↔ t ∈ c.cs ∧ newC p t = true := by
  show t ∈ filK (newC p) [] c.cs c.cs.length ↔ _
  rw [filK_filter _ _ _ (Nat.le_refl _), List.take_length, List.mem_filter]
theorem dtal_pw {p c : GState} (h : SOK c) : (deltaRaw p c).tallies.Pairwise fun a b => tallyLt a b = true := by
  show (filK (more p.know c.know) [] c.tallies c.tallies.length).Pairwise _
  rw [filK_filter _ _ _ (Nat.le_refl _), List.take_length]; exact h.t3.filter _
theorem dliv_pw {p c : GState} (h : SOK c) : (deltaRaw p c).lives.Pairwise fun a b => liveLt a b = true := by
  show (filK (newB p) [] c.lives c.lives.length).Pairwise _
  rw [filK_filter _ _ _ (Nat.le_refl _), List.take_length]; exact h.l3.filter _
theorem dcel_pw {p c : GState} (h : SOK c) : (deltaRaw p c).cs.Pairwise fun a b => cellLt a b = true := by
  show (filK (newC p) [] c.cs c.cs.length).Pairwise _
  rw [filK_filter _ _ _ (Nat.le_refl _), List.take_length]; exact h.c3.filter _
theorem dead_pw {p c : GState} (h : SOK p) : (deltaRaw p c).dead.Pairwise fun a b => before a b = true := by
  show (deadK c p.lives p.lives.length).Pairwise _
  rw [deadK_eq _ _ _ (Nat.le_refl _), List.take_length, List.pairwise_map]
  exact h.l3.filter _
/-- What changed is right. -/
theorem delta_right {Dp Dc : List GAct} {p c : GState} (hp : Canon Dp p) (hc : Canon Dc c) (pc : ∀ a, a ∈ Dp → a ∈ Dc) : deltaOk (deltaRaw p c) = true := by
  have lt := dTal_len p c c.tallies.length
  have ll := dLivs_len p c c.lives.length
  have lc := dCels_len p c c.cs.length
  have ld := deadK_len c p.lives p.lives.length
  have z1 := hc.sok.t1
  have z2 := hc.sok.l1
  have z3 := hc.sok.c1
  have z4 := hp.sok.l1
  simp only [deltaOk, Bool.and_eq_true, decide_eq_true_eq]
  refine ⟨⟨⟨⟨⟨⟨⟨know_sub hp hc pc, tals_of (by show (dTal p c c.tallies.length).length ≤ 120; omega) (fun t ht => hc.sok.t2 t (dtal_mem.1 ht).1) (dtal_pw hc.sok)⟩, livKs_of (by show (dLivs p c c.lives.length).length ≤ 120; omega) (fun t ht => hc.sok.l2 t (dliv_mem.1 ht).1) (dliv_pw hc.sok)⟩, celKs_of (by show (dCels p c c.cs.length).length ≤ 120; omega) (fun t ht => hc.sok.c2 t (dcel_mem.1 ht).1) (dcel_pw hc.sok)⟩, by show (deadK c p.lives p.lives.length).length ≤ 120; omega⟩, allB_iff.2 fun i hi => ?_⟩, allB_iff.2 fun i hi => ?_⟩, allB_iff.2 fun i hi => ?_⟩
  · have := (dliv_mem.1 (nth_mem hi)).2
    exact this
  · obtain ⟨z, h1, h2, h3⟩ := dead_mem.1 (nth_mem hi)
    simp only [eDead, Bool.and_eq_true, Bool.or_eq_true, decide_eq_true_eq]
    refine ⟨?_, cons_of (dead_pw hp.sok) i hi⟩
    rw [← h3]; exact (hp.sok.l2 z h1).1
  · have hm := (dcel_mem.1 (nth_mem hi)).1
    simp only [eCel, Bool.or_eq_true, Bool.and_eq_true, beq_iff_eq]
    rcases hc.sok.c4 _ hm with e | ⟨y, hy, e, _, _⟩
    · left; rw [e]; exact ⟨rfl, rfl⟩
    · right
      have := (hc.sok.c2 y hy).1
      rw [e] at this
      simp only [knows, Bool.and_eq_true] at this
      exact this.1.2
theorem know_le_of {D1 D2 : List GAct} {s1 s2 : GState} (h1 : Canon D1 s1) (h2 : Canon D2 s2) (hs : ∀ x, x ∈ D1 → x ∈ D2) {d : GDot} (h : knows s1.know d = true) : knows s2.know d = true := by
  obtain ⟨a, ha, e⟩ := (h1.know d).1 h
  exact (h2.know d).2 ⟨a, hs a ha, e⟩
theorem puts_one {a : GAct} {x y : GLive} (hx : puts a x) (hy : puts a y) : x = y := by
  rcases hx with ⟨k, e⟩ | ⟨k, e⟩ <;> rcases hy with ⟨k', e'⟩ | ⟨k', e'⟩
  · rw [e, e']
  · omega
  · omega
  · rw [e, e']
/-- .. done to what knows all that was known: what both become. -/
theorem delta_is {Dp Dc Ds : List GAct} {p c s : GState} (hp : Canon Dp p) (hc : Canon Dc c) (hs : Canon Ds s) (pc : ∀ a, a ∈ Dp → a ∈ Dc) (ps : ∀ a, a ∈ Dp → a ∈ Ds) : doneRaw s (deltaRaw p c) = mergeRaw s c := by
  have hd := delta_right hp hc pc
  have hF := deltaOk_F hd
  have kpc : ∀ {d}, knows p.know d = true → knows c.know d = true := fun h => know_le_of hp hc pc h
  have kps : ∀ {d}, knows p.know d = true → knows s.know d = true := fun h => know_le_of hp hs ps h
  have kle := know_sub hp hs ps
  obtain ⟨_, _, kn⟩ := knowIn_at kle
  have e1 : talTwo s.know c.know s.tallies (deltaRaw p c).tallies = talTwo s.know c.know s.tallies c.tallies := by
    refine lt_uniq2 tallyLt_Lt (talTwo_perm hs.sok.t3 (dtal_pw hc.sok)).1 (talTwo_perm hs.sok.t3 hc.sok.t3).1 fun t => ?_
    rw [talTwo_mem hs.sok.t3 (dtal_pw hc.sok), talTwo_mem hs.sok.t3 hc.sok.t3, dtal_mem]
    constructor
    · rintro (h | ⟨⟨h1, _⟩, h2⟩)
      · exact .inl h
      · exact .inr ⟨h1, h2⟩
    · rintro (h | ⟨h1, h2⟩)
      · exact .inl h
      · refine .inr ⟨⟨h1, ?_⟩, h2⟩
        have ht := hc.sok.t2 t h1
        simp only [tallyOk, spIn, Bool.and_eq_true, decide_eq_true_eq] at ht
        have := kn t.rep.toNat (by omega)
        simp only [more, decide_eq_true_eq] at h2 ⊢
        omega
  have e2 : dB s (deltaRaw p c) (deltaRaw p c).lives.length = livB s c c.lives.length := by
    refine lt_uniq2 liveLt_Lt (dB_sorted (of_sok hs.sok) hF).1 (livB_sorted (of_sok hs.sok) (of_sok hc.sok)).1 fun x => ?_
    rw [(dB_sorted (of_sok hs.sok) hF).2.mem_iff, filK_mem (Nat.le_refl _), livB_mem]
    have eA : x ∈ dA s (deltaRaw p c) s.lives.length ↔ x ∈ s.lives ∧ keepD (deltaRaw p c) x = true := by
      unfold dA
      rw [filK_filter _ _ _ (Nat.le_refl _), List.take_length, List.mem_filter]
    have eN : (∃ i, i < (deltaRaw p c).lives.length ∧ nth (deltaRaw p c).lives i = x ∧ newB s x = true) ↔ x ∈ c.lives ∧ newB s x = true := by
      constructor
      · rintro ⟨i, hi, rfl, h⟩
        exact ⟨(dliv_mem.1 (nth_mem hi)).1, h⟩
      · rintro ⟨h1, h2⟩
        have hm : x ∈ (deltaRaw p c).lives := dliv_mem.2 ⟨h1, by
          simp only [newB, Bool.not_eq_true'] at h2 ⊢
          cases hq : knows p.know x.dot
          · rfl
          · rw [kps hq] at h2; cases h2⟩
        obtain ⟨i, hi, e⟩ := mem_nth hm
        exact ⟨i, hi, e, h2⟩
    rw [eA, eN]
    have key : x ∈ s.lives → (keepD (deltaRaw p c) x = true ↔ keepA c x = true) := fun hx => by
      have hkd : (deltaRaw p c).know = c.know := rfl
      have hbd : (deltaRaw p c).base = p.know := rfl
      have hdead : hasX (deltaRaw p c).dead x.dot = true ↔ ∃ z, z ∈ p.lives ∧ ¬ z ∈ c.lives ∧ z.dot = x.dot := by
        simp only [hasX, decide_eq_true_eq]; exact dead_mem
      simp only [keepD, goneL, hkd, hbd, keepA, Bool.and_eq_true, Bool.or_eq_true, Bool.not_eq_true']
      cases q1 : knows c.know x.dot
      · have nd : hasX (deltaRaw p c).dead x.dot = false := by
          rw [Bool.eq_false_iff, Ne, hdead]
          rintro ⟨z, h1, _, e⟩
          have := kpc (hp.sok.l2 z h1).1
          rw [e, q1] at this; cases this
        simp [nd]
      · cases q2 : knows p.know x.dot
        · have nd : hasX (deltaRaw p c).dead x.dot = false := by
            rw [Bool.eq_false_iff, Ne, hdead]
            rintro ⟨z, h1, _, e⟩
            have := (hp.sok.l2 z h1).1
            rw [e, q2] at this; cases this
          have hl : hasX (deltaRaw p c).lives x = hasX c.lives x := by
            rw [Bool.eq_iff_iff]
            simp only [hasX, decide_eq_true_eq]
            rw [dliv_mem]
            simp [newB, q2]
          simp [nd, hl]
        · -- known before
          obtain ⟨⟨a, ha, hpu⟩, hno⟩ := (hs.liv x).1 hx
          obtain ⟨b, hb, eb⟩ := (hp.know _).1 q2
          have hab : b = a := nodup_inj hs.nod (ps b hb) ha (by rw [eb, puts_dot hpu])
          subst hab
          have hxp : x ∈ p.lives := (hp.liv x).2 ⟨⟨b, hb, hpu⟩, fun ⟨y, hy, ht⟩ => hno ⟨y, ps y hy, ht⟩⟩
          have hx2 : hasX (deltaRaw p c).dead x.dot = !hasX c.lives x := by
            cases q3 : hasX c.lives x
            · rw [Bool.not_false, hdead]
              exact ⟨x, hxp, by simpa [hasX] using q3, rfl⟩
            · rw [Bool.not_true, Bool.eq_false_iff, Ne, hdead]
              rintro ⟨z, h1, h2, e⟩
              obtain ⟨⟨a', ha', hz⟩, _⟩ := (hp.liv z).1 h1
              have : a' = b := nodup_inj hp.nod ha' hb (by rw [← puts_dot hz, e, puts_dot hpu])
              subst this
              rw [puts_one hz hpu] at h2
              exact h2 (by simpa [hasX] using q3)
          rw [hx2]
          cases hasX c.lives x <;> simp
    constructor
    · rintro (⟨h1, h2⟩ | h)
      · exact .inl ⟨h1, (key h1).1 h2⟩
      · exact .inr h
    · rintro (⟨h1, h2⟩ | h)
      · exact .inl ⟨h1, (key h1).2 h2⟩
      · exact .inr h
  have e3 : cellsU s.cs (deltaRaw p c).cs = cellsU s.cs c.cs := by
    refine lt_uniq2 cellLt_Lt (cellsI_sorted hs.sok.c3 (dcel_pw hc.sok) _ (Nat.le_refl _)) (cellsI_sorted hs.sok.c3 hc.sok.c3 _ (Nat.le_refl _)) fun x => ?_
    have there : ∀ y, y ∈ p.cs → ∃ z, z ∈ s.cs ∧ z.dot = y.dot ∧ (y.gone = true → z.gone = true) := fun y hy => by
      obtain ⟨a, ha, h6, e, hg⟩ := (hp.cel y).1 hy
      have ed : y.dot = a.dot := by rw [e]; rfl
      by_cases q : isCut Ds a.dot
      · exact ⟨celOf a true, (hs.cel _).2 ⟨a, ps a ha, h6, rfl, by simpa [celOf] using q⟩, ed.symm, fun _ => rfl⟩
      · refine ⟨celOf a false, (hs.cel _).2 ⟨a, ps a ha, h6, rfl, by simpa [celOf] using q⟩, ed.symm, fun h => ?_⟩
        obtain ⟨y', hy', q'⟩ := hg.1 h
        exact absurd ⟨y', ps y' hy', q'⟩ q
    have isnew : ∀ y, y ∈ c.cs → ¬ newC p y = true → ∃ z, z ∈ p.cs ∧ z.dot = y.dot ∧ (y.gone = true → z.gone = true) := fun y hy hn => by
      simp only [newC, Bool.or_eq_true, decide_eq_true_eq, Bool.and_eq_true, Bool.not_eq_true', not_or, not_and] at hn
      obtain ⟨n1, n2⟩ := hn
      rcases cellAt_cases p.cs y.dot with h | ⟨j, hj, h⟩
      · omega
      · rw [h, Int.toNat_natCast] at n2
        refine ⟨nth p.cs j, nth_mem hj, ?_, fun hg => ?_⟩
        · have := idx_cases (dotIs y.dot) p.cs
          unfold cellAt at h
          rcases this with ⟨i, hi, g1, _, g2⟩ | ⟨_, g2⟩
          · have : i = j := by omega
            subst this
            simpa [dotIs] using g1
          · omega
        · have := n2 hg
          simpa using this
    have gsame : ∀ y, y ∈ s.cs → (y.gone || goneIn (deltaRaw p c).cs y.dot) = (y.gone || goneIn c.cs y.dot) := fun y hy => by
      cases hg : y.gone
      · rw [Bool.false_or, Bool.false_or, Bool.eq_iff_iff, goneIn_iff, goneIn_iff]
        constructor
        · rintro ⟨z, h1, h2⟩; exact ⟨z, (dcel_mem.1 h1).1, h2⟩
        · rintro ⟨z, h1, h2, h3⟩
          by_cases hn : newC p z = true
          · exact ⟨z, dcel_mem.2 ⟨h1, hn⟩, h2, h3⟩
          · exfalso
            obtain ⟨w, w1, w2, w3⟩ := isnew z h1 hn
            obtain ⟨v, v1, v2, v3⟩ := there w w1
            have : v = y := cells_one hs.sok.c3 v1 hy (by rw [v2, w2, h2])
            rw [this] at v3
            rw [v3 (w3 h3)] at hg; cases hg
      · simp
    rw [cellsU_mem, cellsU_mem]
    constructor
    · rintro (⟨y, hy, rfl⟩ | ⟨h1, h2⟩)
      · exact .inl ⟨y, hy, by rw [gsame y hy]⟩
      · exact .inr ⟨(dcel_mem.1 h1).1, h2⟩
    · rintro (⟨y, hy, rfl⟩ | ⟨h1, h2⟩)
      · exact .inl ⟨y, hy, by rw [gsame y hy]⟩
      · refine .inr ⟨dcel_mem.2 ⟨h1, ?_⟩, h2⟩
        cases hn : newC p x
        · exfalso
          obtain ⟨w, w1, w2, _⟩ := isnew x h1 (by simp [hn])
          obtain ⟨v, v1, v2, _⟩ := there w w1
          have : hasDot s.cs x.dot = true := hasDot_iff.2 ⟨v, v1, by rw [v2, w2]⟩
          rw [h2] at this; cases this
        · rfl
  show (⟨knowMax s.know c.know, talTwo s.know c.know s.tallies (deltaRaw p c).tallies, dB s (deltaRaw p c) (deltaRaw p c).lives.length, cellsU s.cs (deltaRaw p c).cs⟩ : GState) = ⟨knowMax s.know c.know, talTwo s.know c.know s.tallies c.tallies, livB s c c.lives.length, cellsU s.cs c.cs⟩
  rw [e1, e2, e3]
theorem delta_of {Dp Dc : List GAct} {p c : GState} (hp : Canon Dp p) (hc : Canon Dc c) (pc : ∀ a, a ∈ Dp → a ∈ Dc) (hl : Dp.length + Dc.length ≤ 120) : deltaOf p c = (deltaRaw p c, true) := by
  unfold deltaOf
  rw [if_pos (behind_sub hp hc pc hl)]
theorem delta_done {Dp Dc Ds : List GAct} {p c s : GState} (hp : Canon Dp p) (hc : Canon Dc c) (hs : Canon Ds s) (pc : ∀ a, a ∈ Dp → a ∈ Dc) (ps : ∀ a, a ∈ Dp → a ∈ Ds) (hf : Fits Ds Dc) (hl : Ds.length + Dc.length ≤ 120) : doDelta s (deltaRaw p c) = if knowIn c.know s.know = true then (s, 1) else (mergeState s c, 0) := by
  obtain ⟨D, q1, q2, q3, q4⟩ := merge_all hs hc hf hl
  have hd := delta_right hp hc pc
  have e := delta_is hp hc hs pc ps
  have hM : SOK (mergeRaw s c) := by rw [← q4]; exact q3.sok
  have htm : tooMany (mergeRaw s c) = false := by
    have h1 := hM.t1
    have h2 := hM.l1
    have h3 := hM.c1
    simp only [tooMany, Bool.or_eq_false_iff, decide_eq_false_iff_not]; omega
  unfold doDelta
  rw [if_neg (by rw [of_sok hs.sok]; simp), if_neg (by rw [hd]; simp)]
  have hk : (deltaRaw p c).know = c.know := rfl
  have hb : (deltaRaw p c).base = p.know := rfl
  rw [hk, hb]
  by_cases q : knowIn c.know s.know = true
  · rw [if_pos q, if_pos q]
  · rw [if_neg q, if_neg q, if_neg (by rw [know_sub hp hs ps]; simp), e, if_neg (by rw [htm]; simp), if_neg (by rw [of_sok hM]; simp), q4]
end Am
namespace Am
open Go
set_option linter.unusedSimpArgs false
set_option linter.unusedVariables false

theorem deltaOf_ok {p c : GState} (hp : p.Ok) (hc : c.Ok) : (deltaOf p c).1.Ok := by
  unfold deltaOf
  split
  · simp only [GState.Ok] at hp hc
    simp only [GDelta.Ok]
    have h1 := dTal_len p c c.tallies.length
    have h2 := dLivs_len p c c.lives.length
    have h3 := deadK_len c p.lives p.lives.length
    have h4 := dCels_len p c c.cs.length
    refine ⟨hp.1, hc.1, ?_, ?_, ?_, ?_, ?_, ?_, ?_⟩
    · simp only [deltaRaw]; omega
    · intro y hy
      rcases (filK_mem (Nat.le_refl _)).1 hy with h | ⟨i, hi, rfl, _⟩
      · cases h
      · exact hc.2.2.1 _ (nth_mem hi)
    · simp only [deltaRaw]; omega
    · intro y hy
      rcases (filK_mem (Nat.le_refl _)).1 hy with h | ⟨i, hi, rfl, _⟩
      · cases h
      · exact hc.2.2.2.2.1 _ (nth_mem hi)
    · simp only [deltaRaw]; omega
    · simp only [deltaRaw]; omega
    · intro y hy
      rcases (filK_mem (Nat.le_refl _)).1 hy with h | ⟨i, hi, rfl, _⟩
      · cases h
      · exact hc.2.2.2.2.2.2 _ (nth_mem hi)
  · simp [noDelta, GDelta.Ok]
theorem doDelta_ok {s : GState} {d : GDelta} (hs : s.Ok) (hd : d.Ok) : (doDelta s d).1.Ok := by
  unfold doDelta
  split
  · exact hs
  rename_i k1
  split
  · exact hs
  rename_i k2
  split
  · exact hs
  split
  · exact hs
  split
  · exact hs
  split
  · exact hs
  · exact doneRaw_ok hs hd (by simpa using k1) (deltaOk_F (by simpa using k2))
theorem deltaOf_two (a b : GState) : (deltaOf a b).2 = behind a b := by
  unfold deltaOf
  split
  · rename_i h; rw [h]
  · rename_i h; simp only [Bool.not_eq_true] at h; rw [h]
theorem two_know {p a b : GState} {D0 D1 D2 : List GAct} (h : Two p a b D0 D1 D2) : (knowIn a.know p.know = true → a = p) ∧ (knowIn a.know b.know = true → a = p) := by
  have eqp : (∀ x, x ∈ D1 → x ∈ D0) → a = p := fun hs => canon_eq h.c1 h.c0 fun x => ⟨hs x, h.s1 x⟩
  refine ⟨fun hk => eqp (know_same h.c1 h.c0 (fits_symm (fits_sub h.c1.nod h.s1)) hk), fun hk => eqp fun x hx => ?_⟩
  have h2 := know_same h.c1 h.c2 h.fits hk x hx
  rcases h.r1 x hx with q | q
  · exact q
  · rcases h.r2 x h2 with q' | q'
    · exact q'
    · omega
theorem two_deltas {p a b : GState} {D0 D1 D2 : List GAct} (h : Two p a b D0 D1 D2) :
    deltaOf p a = (deltaRaw p a, true) ∧ deltaOk (deltaRaw p a) = true ∧ (deltaOf a p).2 = decide (a = p) ∧ (a = p → doDelta p (deltaRaw p a) = (p, 1)) ∧
    (a ≠ p → doDelta p (deltaRaw p a) = (a, 0) ∧ doDelta b (deltaRaw p a) = (mergeState b a, 0) ∧ doDelta (mergeState b a) (deltaRaw p a) = (mergeState b a, 1)) ∧ SOK (mergeState b a) := by
  have l0 := h.l0
  have l1 := h.l1
  have l2 := h.l2
  obtain ⟨D, q1, q2, q3, q4⟩ := merge_all h.c2 h.c1 (fits_symm h.fits) (by omega)
  obtain ⟨k1, k2⟩ := two_know h
  have f0 : Fits D0 D1 := fits_sub h.c1.nod h.s1
  refine ⟨delta_of h.c0 h.c1 h.s1 (by omega), delta_right h.c0 h.c1 h.s1, ?_, fun e => ?_, fun e => ⟨?_, ?_, ?_⟩, q3.sok⟩
  · rw [deltaOf_two]
    unfold behind
    rw [of_sok h.c1.sok, of_sok h.c0.sok, merge_sup h.c1 h.c0 h.s1 (by omega)]
    simp
  · rw [delta_done h.c0 h.c1 h.c0 h.s1 (fun _ hx => hx) f0 (by omega), if_pos]
    rw [e]
    exact know_sub h.c0 h.c0 (fun _ hx => hx)
  · rw [delta_done h.c0 h.c1 h.c0 h.s1 (fun _ hx => hx) f0 (by omega), if_neg (fun hk => e (k1 hk)), merge_sub h.c0 h.c1 h.s1 (by omega)]
  · rw [delta_done h.c0 h.c1 h.c2 h.s1 h.s2 (fits_symm h.fits) (by omega), if_neg (fun hk => e (k2 hk))]
  · have hs : ∀ x, x ∈ D1 → x ∈ D := fun x hx => (q1 x).2 (.inr hx)
    rw [delta_done h.c0 h.c1 q3 h.s1 (fun x hx => hs x (h.s1 x hx)) (fits_symm (fits_sub q3.nod hs)) (by omega), if_pos (know_sub h.c1 q3 hs)]
end Am
namespace Am
open Go Go.Proofs
open Cel (cells)
set_option maxRecDepth 100000
set_option linter.unusedSimpArgs false
set_option linter.unusedVariables false

def dmC (b : List UInt8) : Int × GCur := curN (curNew b) 5
def dmA (b : List UInt8) : GState := if ((dmC b).1 == 0) = true then (anyD (dmC b).2).1 else (twoA (dmC b).2).1
def dmB (b : List UInt8) : GState := if ((dmC b).1 == 0) = true then (anyD (anyD (dmC b).2).2).1 else (twoB (dmC b).2).1
theorem dm_Ok {b : List UInt8} (hb : b.length ≤ 1048576) : (dmA b).Ok ∧ (dmB b).Ok := by
  have c1 : (dmC b).2.Ok := curN_ok (curNew_ok hb) _
  unfold dmA dmB
  split
  · exact ⟨anyD_Ok _, anyD_Ok _⟩
  · exact ⟨sok_Ok (twoA_sok c1), sok_Ok (twoB_sok c1)⟩
@[simp] def h21 : Hts := { merge := fun _ => false, mergeF := fun _ => false, own := fun d => !(d == 14 || d == 17), lend := fun f => if f = 95 || f = 96 || f = 73 then [.box []] else [], dr := fun id => if id = 4 then [{ mn := [640], mb := [17] }, {}, { wr := [640], cr := true }, { wr := [128] }, { wr := [192] }] else if id = 6 then [{}, { mn := [128] }, { wr := [128] }, { wr := [192] }] else [] }
set_option maxHeartbeats 2000000 in
theorem f21_ok (b : List UInt8) (hb : b.length ≤ 1048576) : FnR Tryz.prog 21 [.v (.im b.length (flat b))] (.tup [.agg [.im (dmA b).know.length (flat (dmA b).know), .im (dmA b).tallies.length (flat (dmA b).tallies), .im (dmA b).lives.length (flat (dmA b).lives), .im (dmA b).cs.length (flat (dmA b).cs)], .agg [.im (dmB b).know.length (flat (dmB b).know), .im (dmB b).tallies.length (flat (dmB b).tallies), .im (dmB b).lives.length (flat (dmB b).lives), .im (dmB b).cs.length (flat (dmB b).cs)]]) := by
  have c0 := curNew_ok hb
  have c1 : (curN (curNew b) 5).2.Ok := curN_ok c0 _
  refine FnW.of_AW TryzT_ok 0 (fn := Tryz.f21) (by kernel_rfl) rfl (by kernel_rfl) rfl rfl rfl ?_; refine AW_of h21 TryzT_ok (by kernel_rfl) ?_
  simp -dsimp
  refine ACallK_of (f74_ok b hb) ?_
  simp -dsimp
  refine ACallW_args (by intro us; simp -dsimp; exact ⟨rfl, rfl, rfl⟩) ?_
  refine ACallC_of (fun us => f95_ok (curNew b) c0 5) (by intro us; simp -dsimp; exact ⟨rfl, rfl⟩) ?_
  cases q : ((curN (curNew b) 5).1 == 0)
  · simp -dsimp
    refine ACallW_args (by intro us; simp -dsimp; exact ⟨rfl, rfl, rfl⟩) ?_
    refine ACallC_of (fun us => f73_ok (curN (curNew b) 5).2 c1) (by intro us; simp -dsimp; exact ⟨rfl, rfl⟩) ?_
    simp -dsimp
    simp [dmA, dmB, dmC, q]
  · simp -dsimp
    refine ACallW_args (by intro us; simp -dsimp; exact ⟨rfl, rfl, rfl⟩) ?_
    refine ACallC_of (fun us => f96_ok (curN (curNew b) 5).2 c1) (by intro us; simp -dsimp; exact ⟨rfl, rfl⟩) ?_
    simp -dsimp
    refine ACallW_args (by intro us; simp -dsimp; exact ⟨rfl, rfl, rfl⟩) ?_
    refine ACallC_of (fun us => f96_ok (anyD (curN (curNew b) 5).2).2 (anyD_ok c1)) (by intro us; simp -dsimp; exact ⟨rfl, rfl⟩) ?_
    simp -dsimp
    simp [dmA, dmB, dmC, q]

def dbK (b : List UInt8) : Int × GCur := curN (twoB (curNew b)).2 3
def dbA (b : List UInt8) : GState := if (dbK b).1 = 0 then (twoP (curNew b)).1 else if (dbK b).1 = 1 then (twoA (curNew b)).1 else (anyD (dbK b).2).1
def dbB (b : List UInt8) : GState := if (dbK b).1 = 0 then (twoA (curNew b)).1 else if (dbK b).1 = 1 then (twoB (curNew b)).1 else (twoA (curNew b)).1
theorem db_Ok {b : List UInt8} (hb : b.length ≤ 1048576) : (dbA b).Ok ∧ (dbB b).Ok := by
  have c0 := curNew_ok hb
  unfold dbA dbB
  split
  · exact ⟨sok_Ok (twoP_sok _), sok_Ok (twoA_sok c0)⟩
  split
  · exact ⟨sok_Ok (twoA_sok c0), sok_Ok (twoB_sok c0)⟩
  · exact ⟨anyD_Ok _, sok_Ok (twoA_sok c0)⟩
@[simp] def h25 : Hts := { merge := fun _ => false, mergeF := fun _ => false, own := fun d => !(d == 27), lend := fun f => if f = 93 || f = 96 || f = 73 then [.box []] else [], dr := fun id => if id = 5 then [{}, { mn := [128] }, { wr := [128] }, { wr := [192] }] else if id = 7 then [{}, { mn := [128] }, { wr := [128] }, { wr := [192] }] else if id = 8 then [{}, { wr := [576], cr := true }, { mn := [128, 576], mb := [27] }, { wr := [128] }, { wr := [192] }] else [] }
set_option maxHeartbeats 2000000 in
theorem f25_ok (b : List UInt8) (hb : b.length ≤ 1048576) : FnR Tryz.prog 25 [.v (.im b.length (flat b))] (.tup [.agg [.im (dbA b).know.length (flat (dbA b).know), .im (dbA b).tallies.length (flat (dbA b).tallies), .im (dbA b).lives.length (flat (dbA b).lives), .im (dbA b).cs.length (flat (dbA b).cs)], .agg [.im (dbB b).know.length (flat (dbB b).know), .im (dbB b).tallies.length (flat (dbB b).tallies), .im (dbB b).lives.length (flat (dbB b).lives), .im (dbB b).cs.length (flat (dbB b).cs)]]) := by
  have c0 := curNew_ok hb
  have c1 := twoB_ok c0
  have c2 : (curN (twoB (curNew b)).2 3).2.Ok := curN_ok c1 _
  refine FnW.of_AW TryzT_ok 0 (fn := Tryz.f25) (by kernel_rfl) rfl (by kernel_rfl) rfl rfl rfl ?_; refine AW_of h25 TryzT_ok (by kernel_rfl) ?_
  simp -dsimp
  refine ACallK_of (f74_ok b hb) ?_
  simp -dsimp
  refine ACallW_args (by intro us; simp -dsimp; exact ⟨rfl, rfl, rfl⟩) ?_
  refine ACallC_of (fun us => f73_ok (curNew b) c0) (by intro us; simp -dsimp; exact ⟨rfl, rfl⟩) ?_
  simp -dsimp
  refine ACallW_args (by intro us; simp -dsimp; exact ⟨rfl, rfl, rfl⟩) ?_
  refine ACallC_of (fun us => f93_ok (twoB (curNew b)).2 c1 3) (by intro us; simp -dsimp; exact ⟨rfl, rfl⟩) ?_
  by_cases k0 : (curN (twoB (curNew b)).2 3).1 = 0
  · simp -dsimp [k0]
    simp [dbA, dbB, dbK, k0]
  by_cases k1 : (curN (twoB (curNew b)).2 3).1 = 1
  · simp -dsimp [k1]
    simp [dbA, dbB, dbK, k1]
  simp -dsimp [k0, k1]
  refine ACallW_args (by intro us; simp -dsimp; exact ⟨rfl, rfl, rfl⟩) ?_
  refine ACallC_of (fun us => f96_ok (curN (twoB (curNew b)).2 3).2 c2) (by intro us; simp -dsimp; exact ⟨rfl, rfl⟩) ?_
  simp -dsimp
  simp [dbA, dbB, dbK, k0, k1]
@[simp] def h34 : Hts := {  }
theorem f34_ok (b : List UInt8) (hb : b.length ≤ 1048576) : FnR Tryz.prog 34 [.v (.im b.length (flat b))] (.tup [.agg [.im (dbA b).know.length (flat (dbA b).know), .im (dbA b).tallies.length (flat (dbA b).tallies), .im (dbA b).lives.length (flat (dbA b).lives), .im (dbA b).cs.length (flat (dbA b).cs)], .agg [.im (dbB b).know.length (flat (dbB b).know), .im (dbB b).tallies.length (flat (dbB b).tallies), .im (dbB b).lives.length (flat (dbB b).lives), .im (dbB b).cs.length (flat (dbB b).cs)]]) := by
  refine FnW.of_AW TryzT_ok 0 (fn := Tryz.f34) (by kernel_rfl) rfl (by kernel_rfl) rfl rfl rfl ?_; refine AW_of h34 TryzT_ok (by kernel_rfl) ?_
  simp -dsimp
  refine ACallK_of (f25_ok b hb) ?_
  simp -dsimp

def dltD (c : GCur) : GDelta × GCur := ((deltaOf (twoP c).1 (twoA c).1).1, (twoB c).2)
@[simp] def h179 : Hts := { merge := fun _ => false, mergeF := fun _ => false, lend := fun f => if f = 73 then [.box []] else [] }
theorem f179_ok (c : GCur) (hc : c.Ok) : FnW Tryz.prog 179 [.ptr [.im c.b.length (flat c.b), .int .i64 c.i, .int .i64 c.h]] (.agg [.ow 3 1 ((dltD c).1).base.length (flat ((dltD c).1).base), .ow 3 1 ((dltD c).1).know.length (flat ((dltD c).1).know), .ow 117 3 ((dltD c).1).tallies.length (flat ((dltD c).1).tallies), .ow 107 6 ((dltD c).1).lives.length (flat ((dltD c).1).lives), .ow 41 2 ((dltD c).1).dead.length (flat ((dltD c).1).dead), .ow 88 8 ((dltD c).1).cs.length (flat ((dltD c).1).cs)]) [.ptr [.im ((dltD c).2).b.length (flat ((dltD c).2).b), .int .i64 ((dltD c).2).i, .int .i64 ((dltD c).2).h]] := by
  refine FnW.of_AW TryzT_ok 1 (fn := Tryz.f179) (by kernel_rfl) rfl (by kernel_rfl) rfl rfl rfl ?_; refine AW_of h179 TryzT_ok (by kernel_rfl) ?_
  simp -dsimp
  refine ACallW_args (by intro us; simp -dsimp; exact ⟨rfl, rfl, rfl⟩) ?_
  refine ACallC_of (fun us => f73_ok c hc) (by intro us; simp -dsimp; exact ⟨rfl, rfl⟩) ?_
  simp -dsimp
  refine ACallK_of (f35_ok (twoP c).1 (twoA c).1 (sok_Ok (twoP_sok c)) (sok_Ok (twoA_sok hc))) ?_
  simp -dsimp
  simp [dltD]
theorem knowOk_three {k : List Int} (h : knowOk k = true) : k.length = 3 := by
  simp only [knowOk, Bool.and_eq_true, decide_eq_true_eq] at h
  exact h.1
theorem dlt_len {p c : GState} (hp : SOK p) (hc : SOK c) : (deltaOf p c).1.base.length ≤ 120 ∧ (deltaOf p c).1.know.length ≤ 120 ∧ (deltaOf p c).1.tallies.length ≤ 120 ∧ (deltaOf p c).1.lives.length ≤ 120 ∧ (deltaOf p c).1.dead.length ≤ 120 ∧ (deltaOf p c).1.cs.length ≤ 120 := by
  have h1 := dTal_len p c c.tallies.length
  have h2 := dLivs_len p c c.lives.length
  have h3 := deadK_len c p.lives p.lives.length
  have h4 := dCels_len p c c.cs.length
  have k1 := knowOk_three hp.k
  have k2 := knowOk_three hc.k
  have z1 := hc.t1
  have z2 := hc.l1
  have z3 := hc.c1
  have z4 := hp.l1
  unfold deltaOf
  split
  · simp only [deltaRaw]; omega
  · simp [noDelta]
def dltM (k y : Int) (d : GDelta) : GDelta :=
  if k = 0 then { d with know := [y.tmod 4, y.tmod 3, y.tmod 5] }
  else if k = 1 then { d with dead := d.dead ++ [⟨y.tmod 4, y.tmod 5⟩] }
  else if k = 2 then { d with lives := d.lives ++ [⟨false, tA, tX, 0, ⟨2, y.tmod 6⟩⟩] }
  else if k = 3 then { d with base := [] }
  else if k = 4 then { d with cs := d.cs ++ [⟨tA, ⟨2, 1 + y.tmod 5⟩, y.tmod 4, ⟨1, y.tmod 3⟩, 0, false⟩] }
  else d
def anyDl (c : GCur) : GDelta × GCur := (dltM (curN c 12).1 (curN (curN c 12).2 60).1 (dltD (curN (curN c 12).2 60).2).1, (dltD (curN (curN c 12).2 60).2).2)
theorem anyDl_ok {c : GCur} (h : c.Ok) : (anyDl c).2.Ok := twoB_ok (curN_ok (curN_ok h _) _)
theorem dltM_Ok (k y : Int) {d : GDelta} (h : d.Ok) (hl : d.base.length ≤ 120 ∧ d.know.length ≤ 120 ∧ d.tallies.length ≤ 120 ∧ d.lives.length ≤ 120 ∧ d.dead.length ≤ 120 ∧ d.cs.length ≤ 120) : (dltM k y d).Ok := by
  have sA : tA.size ≤ 1073741824 := by decide
  have sX : tX.size ≤ 1073741824 := by decide
  simp only [GDelta.Ok] at h ⊢
  obtain ⟨o0, o1, o2, o3, o4, o5, o6, o7, o8⟩ := h
  unfold dltM
  split
  · exact ⟨o0, by simp, o2, o3, o4, o5, o6, o7, o8⟩
  split
  · exact ⟨o0, o1, o2, o3, o4, o5, by simp only [List.length_append, List.length_singleton]; omega, o7, o8⟩
  split
  · refine ⟨o0, o1, o2, o3, by simp only [List.length_append, List.length_singleton]; omega, fun z hz => ?_, o6, o7, o8⟩
    rcases List.mem_append.1 hz with hz | hz
    · exact o5 z hz
    · rw [List.mem_singleton.1 hz]; simp only [GLive.Ok]; exact ⟨sA, sX⟩
  split
  · exact ⟨by simp, o1, o2, o3, o4, o5, o6, o7, o8⟩
  split
  · refine ⟨o0, o1, o2, o3, o4, o5, o6, by simp only [List.length_append, List.length_singleton]; omega, fun z hz => ?_⟩
    rcases List.mem_append.1 hz with hz | hz
    · exact o8 z hz
    · rw [List.mem_singleton.1 hz]; simp only [GCell.Ok]; exact sA
  · exact ⟨o0, o1, o2, o3, o4, o5, o6, o7, o8⟩
theorem anyDl_Ok {c : GCur} (h : c.Ok) : (anyDl c).1.Ok := by
  have c2 : (curN (curN c 12).2 60).2.Ok := curN_ok (curN_ok h _) _
  have p := twoP_sok (curN (curN c 12).2 60).2
  have a := twoA_sok c2
  exact dltM_Ok _ _ (deltaOf_ok (sok_Ok p) (sok_Ok a)) (dlt_len p a)
@[simp] def h125 : Hts := { merge := fun _ => false, mergeF := fun _ => false, lend := fun f => if f = 93 || f = 179 then [.box []] else [] }
set_option maxHeartbeats 8000000 in
theorem f125_ok (c : GCur) (hc : c.Ok) : FnW Tryz.prog 125 [.ptr [.im c.b.length (flat c.b), .int .i64 c.i, .int .i64 c.h]] (.agg [.ow 3 1 ((anyDl c).1).base.length (flat ((anyDl c).1).base), .ow 3 1 ((anyDl c).1).know.length (flat ((anyDl c).1).know), .ow 117 3 ((anyDl c).1).tallies.length (flat ((anyDl c).1).tallies), .ow 107 6 ((anyDl c).1).lives.length (flat ((anyDl c).1).lives), .ow 41 2 ((anyDl c).1).dead.length (flat ((anyDl c).1).dead), .ow 88 8 ((anyDl c).1).cs.length (flat ((anyDl c).1).cs)]) [.ptr [.im ((anyDl c).2).b.length (flat ((anyDl c).2).b), .int .i64 ((anyDl c).2).i, .int .i64 ((anyDl c).2).h]] := by
  have hk := curN_bd c (n := 12) (by decide)
  have hy := curN_bd (curN c 12).2 (n := 60) (by decide)
  have c2 : (curN (curN c 12).2 60).2.Ok := curN_ok (curN_ok hc _) _
  have p := twoP_sok (curN (curN c 12).2 60).2
  have a := twoA_sok c2
  have hO : (dltD (curN (curN c 12).2 60).2).1.Ok := deltaOf_ok (sok_Ok p) (sok_Ok a)
  have hL : (dltD (curN (curN c 12).2 60).2).1.base.length ≤ 120 ∧ (dltD (curN (curN c 12).2 60).2).1.know.length ≤ 120 ∧ (dltD (curN (curN c 12).2 60).2).1.tallies.length ≤ 120 ∧ (dltD (curN (curN c 12).2 60).2).1.lives.length ≤ 120 ∧ (dltD (curN (curN c 12).2 60).2).1.dead.length ≤ 120 ∧ (dltD (curN (curN c 12).2 60).2).1.cs.length ≤ 120 := dlt_len p a
  have d1 : (anyDl c).1 = dltM (curN c 12).1 (curN (curN c 12).2 60).1 (dltD (curN (curN c 12).2 60).2).1 := rfl
  have d2 : (anyDl c).2 = (dltD (curN (curN c 12).2 60).2).2 := rfl
  rw [d1, d2]
  refine FnW.of_AW TryzT_ok 1 (fn := Tryz.f125) (by kernel_rfl) rfl (by kernel_rfl) rfl rfl rfl ?_; refine AW_of h125 TryzT_ok (by kernel_rfl) ?_
  simp -dsimp
  refine ACallW_args (by intro us; simp -dsimp; exact ⟨rfl, rfl, rfl⟩) ?_
  refine ACallC_of (fun us => f93_ok c hc 12) (by intro us; simp -dsimp; exact ⟨rfl, rfl⟩) ?_
  simp -dsimp
  refine ACallW_args (by intro us; simp -dsimp; exact ⟨rfl, rfl, rfl⟩) ?_
  refine ACallC_of (fun us => f93_ok (curN c 12).2 (curN_ok hc _) 60) (by intro us; simp -dsimp; exact ⟨rfl, rfl⟩) ?_
  simp -dsimp
  refine ACallW_args (by intro us; simp -dsimp; exact ⟨rfl, rfl, rfl⟩) ?_
  refine ACallC_of (fun us => f179_ok (curN (curN c 12).2 60).2 c2) (by intro us; simp -dsimp; exact ⟨rfl, rfl⟩) ?_
  simp -dsimp
  refine ACallK_of (f178_ok (dltD (curN (curN c 12).2 60).2).1 hO) ?_
  generalize (dltD (curN (curN c 12).2 60).2).1 = d at *
  generalize (dltD (curN (curN c 12).2 60).2).2 = c1 at *
  generalize (curN (curN c 12).2 60).1 = y at *
  generalize (curN c 12).1 = k at *
  by_cases k0 : k = 0
  · subst k0
    simp -dsimp
    simp [dltM]
    rfl
  by_cases k1 : k = 1
  · subst k1
    simp -dsimp
    repeat (first | refine ⟨by omega, ?_⟩ | refine ⟨by simp [capMax]; omega, ?_⟩ | refine ⟨⟨by omega, by omega⟩, ?_⟩)
    simp [dltM]
  by_cases k2 : k = 2
  · subst k2
    simp -dsimp
    repeat (first | refine ⟨by omega, ?_⟩ | refine ⟨by simp [capMax]; omega, ?_⟩ | refine ⟨⟨by omega, by omega⟩, ?_⟩)
    simp [dltM, tA, tX]
  by_cases k3 : k = 3
  · subst k3
    simp -dsimp
    simp [dltM]
  by_cases k4 : k = 4
  · have b5 := tmod_bd hy.1 (n := 5) (by decide)
    have w5 : IntKind.i64.wrap (1 + y.tmod 5) = 1 + y.tmod 5 := wrap64 (by omega) (by omega)
    subst k4
    simp -dsimp [w5]
    repeat (first | refine ⟨by omega, ?_⟩ | refine ⟨by simp [capMax]; omega, ?_⟩ | refine ⟨⟨by omega, by omega⟩, ?_⟩)
    simp [dltM, tA]
  simp -dsimp [k0, k1, k2, k3, k4]
  simp [dltM, k0, k1, k2, k3, k4]
@[simp] def h38 : Hts := { merge := fun _ => false, lend := fun f => if f = 125 then [.box []] else [] }
theorem f38_ok (b : List UInt8) (hb : b.length ≤ 1048576) : FnR Tryz.prog 38 [.v (.im b.length (flat b))] (.agg [.ow 3 1 ((anyDl (curNew b)).1).base.length (flat ((anyDl (curNew b)).1).base), .ow 3 1 ((anyDl (curNew b)).1).know.length (flat ((anyDl (curNew b)).1).know), .ow 117 3 ((anyDl (curNew b)).1).tallies.length (flat ((anyDl (curNew b)).1).tallies), .ow 107 6 ((anyDl (curNew b)).1).lives.length (flat ((anyDl (curNew b)).1).lives), .ow 41 2 ((anyDl (curNew b)).1).dead.length (flat ((anyDl (curNew b)).1).dead), .ow 88 8 ((anyDl (curNew b)).1).cs.length (flat ((anyDl (curNew b)).1).cs)]) := by
  refine FnW.of_AW TryzT_ok 0 (fn := Tryz.f38) (by kernel_rfl) rfl (by kernel_rfl) rfl rfl rfl ?_; refine AW_of h38 TryzT_ok (by kernel_rfl) ?_
  simp -dsimp
  refine ACallK_of (f74_ok b hb) ?_
  simp -dsimp
  refine ACallW_args (by intro us; simp -dsimp; exact ⟨rfl, rfl, rfl⟩) ?_
  refine ACallC_of (fun us => f125_ok (curNew b) (curNew_ok hb)) (by intro us; simp -dsimp; exact ⟨rfl, rfl⟩) ?_
  simp -dsimp

def ddeK (b : List UInt8) : Int × GCur := curN (curNew b) 4
def ddeA (b : List UInt8) : GState := if (ddeK b).1 = 0 then (twoP (ddeK b).2).1 else if (ddeK b).1 = 1 then (anyD (twoB (ddeK b).2).2).1 else (twoB (ddeK b).2).1
def ddeD (b : List UInt8) : GDelta := if (ddeK b).1 = 0 then (deltaOf (twoP (ddeK b).2).1 (twoA (ddeK b).2).1).1 else if (ddeK b).1 = 1 then (anyDl (anyD (twoB (ddeK b).2).2).2).1 else (deltaOf (twoP (ddeK b).2).1 (twoA (ddeK b).2).1).1
theorem dde_Ok {b : List UInt8} (hb : b.length ≤ 1048576) : (ddeA b).Ok ∧ (ddeD b).Ok := by
  have c1 : (ddeK b).2.Ok := curN_ok (curNew_ok hb) _
  have hp := sok_Ok (twoP_sok (ddeK b).2)
  have ha := sok_Ok (twoA_sok c1)
  unfold ddeA ddeD
  split
  · exact ⟨hp, deltaOf_ok hp ha⟩
  split
  · exact ⟨anyD_Ok _, anyDl_Ok (anyD_ok (twoB_ok c1))⟩
  · exact ⟨sok_Ok (twoB_sok c1), deltaOf_ok hp ha⟩
@[simp] def h36 : Hts := { merge := fun _ => false, mergeF := fun _ => false, own := fun d => !(d == 35), lend := fun f => if f = 93 || f = 96 || f = 125 || f = 73 then [.box []] else [], dr := fun id => if id = 7 then [{}, { mn := [128] }, { wr := [128] }, { wr := [192] }] else if id = 10 then [{}, { mn := [128] }, { wr := [128] }, { wr := [192] }] else [] }
set_option maxHeartbeats 4000000 in
theorem f36_ok (b : List UInt8) (hb : b.length ≤ 1048576) : FnR Tryz.prog 36 [.v (.im b.length (flat b))] (.tup [.agg [.im (ddeA b).know.length (flat (ddeA b).know), .im (ddeA b).tallies.length (flat (ddeA b).tallies), .im (ddeA b).lives.length (flat (ddeA b).lives), .im (ddeA b).cs.length (flat (ddeA b).cs)], .agg [.ow 3 1 (ddeD b).base.length (flat (ddeD b).base), .ow 3 1 (ddeD b).know.length (flat (ddeD b).know), .ow 117 3 (ddeD b).tallies.length (flat (ddeD b).tallies), .ow 107 6 (ddeD b).lives.length (flat (ddeD b).lives), .ow 41 2 (ddeD b).dead.length (flat (ddeD b).dead), .ow 88 8 (ddeD b).cs.length (flat (ddeD b).cs)]]) := by
  have c0 := curNew_ok hb
  have c1 : (curN (curNew b) 4).2.Ok := curN_ok c0 _
  have c2 := twoB_ok c1
  refine FnW.of_AW TryzT_ok 0 (fn := Tryz.f36) (by kernel_rfl) rfl (by kernel_rfl) rfl rfl rfl ?_; refine AW_of h36 TryzT_ok (by kernel_rfl) ?_
  simp -dsimp
  refine ACallK_of (f74_ok b hb) ?_
  simp -dsimp
  refine ACallW_args (by intro us; simp -dsimp; exact ⟨rfl, rfl, rfl⟩) ?_
  refine ACallC_of (fun us => f93_ok (curNew b) c0 4) (by intro us; simp -dsimp; exact ⟨rfl, rfl⟩) ?_
  simp -dsimp
  refine ACallW_args (by intro us; simp -dsimp; exact ⟨rfl, rfl, rfl⟩) ?_
  refine ACallC_of (fun us => f73_ok (curN (curNew b) 4).2 c1) (by intro us; simp -dsimp; exact ⟨rfl, rfl⟩) ?_
  simp -dsimp
  refine ACallK_of (f35_ok (twoP (curN (curNew b) 4).2).1 (twoA (curN (curNew b) 4).2).1 (sok_Ok (twoP_sok _)) (sok_Ok (twoA_sok c1))) ?_
  by_cases k0 : (curN (curNew b) 4).1 = 0
  · simp -dsimp [k0]
    simp [ddeA, ddeD, ddeK, k0]
  by_cases k1 : (curN (curNew b) 4).1 = 1
  · simp -dsimp [k1]
    refine ACallW_args (by intro us; simp -dsimp; exact ⟨rfl, rfl, rfl⟩) ?_
    refine ACallC_of (fun us => f96_ok (twoB (curN (curNew b) 4).2).2 c2) (by intro us; simp -dsimp; exact ⟨rfl, rfl⟩) ?_
    simp -dsimp
    refine ACallW_args (by intro us; simp -dsimp; exact ⟨rfl, rfl, rfl⟩) ?_
    refine ACallC_of (fun us => f125_ok (anyD (twoB (curN (curNew b) 4).2).2).2 (anyD_ok c2)) (by intro us; simp -dsimp; exact ⟨rfl, rfl⟩) ?_
    simp -dsimp
    simp [ddeA, ddeD, ddeK, k1]
  simp -dsimp [k0, k1]
  simp [ddeA, ddeD, ddeK, k0, k1]
end Am
namespace Am
open Go
set_option linter.unusedSimpArgs false
set_option linter.unusedVariables false

/-- Each act was made where no more was known than what stands ahead of it. -/
def made (l : List GAct) : Prop := ∀ i : Nat, i < l.length → ∃ D0 s0, Canon D0 s0 ∧ Done s0 (nth l i) ∧ (nth l i).knew = s0.know ∧ ∀ b, b ∈ D0 → ∃ j : Nat, j < i ∧ b = nth l j
theorem nth_l {l : List GAct} {a : GAct} {i : Nat} (h : i < l.length) : nth (l ++ [a]) i = nth l i := by
  unfold nth
  rw [List.getD_eq_getElem?_getD, List.getD_eq_getElem?_getD, List.getElem?_append_left h]
theorem nth_at {l : List GAct} {a : GAct} : nth (l ++ [a]) l.length = a := by
  unfold nth
  rw [List.getD_eq_getElem?_getD, List.getElem?_append_right (Nat.le_refl _)]
  simp
theorem made_snoc {l : List GAct} (h : made l) {a : GAct} {D0 : List GAct} {s0 : GState} (h0 : Canon D0 s0) (hd : Done s0 a) (hk : a.knew = s0.know) (hs : ∀ b, b ∈ D0 → b ∈ l) : made (l ++ [a]) := by
  intro i hi
  rw [List.length_append, List.length_singleton] at hi
  rcases Nat.lt_or_ge i l.length with h1 | h1
  · rw [nth_l h1]
    obtain ⟨D, s, q1, q2, q3, q4⟩ := h i h1
    refine ⟨D, s, q1, q2, q3, fun b hb => ?_⟩
    obtain ⟨j, hj, e⟩ := q4 b hb
    exact ⟨j, hj, by rw [nth_l (by omega), e]⟩
  · have ei : i = l.length := by omega
    subst ei
    rw [nth_at]
    refine ⟨D0, s0, h0, hd, hk, fun b hb => ?_⟩
    obtain ⟨j, hj, e⟩ := mem_nth (hs b hb)
    exact ⟨j, hj, by rw [nth_l hj, e]⟩
theorem actOf_knewS {s : GState} {rep time : Int} {e : GEdit} (h : (actOf s rep time e).2 = 0) : (actOf s rep time e).1.knew = s.know := by
  rcases actOf_cases s rep time e with ⟨_, _, _, _, h4⟩ | ⟨h1, _⟩
  · rw [h4]; rfl
  · exact absurd h h1
theorem asN_made {a : AS} (hm : made a.out) (h : Own3 a.out a.st) (hl : a.out.length ≤ 119) : made (asN a).out := by
  have hr : (asR a).1 = 0 ∨ (asR a).1 = 1 ∨ (asR a).1 = 2 := by
    have := curN_bd a.c (n := 3) (by decide)
    have e : (asR a).1 = (curN a.c 3).1 := rfl
    omega
  have hS : Own3 a.out (asSt a) := by
    unfold asSt
    split
    · exact own3_put h hr (own_all (own3_get h hr))
    · exact h
  unfold asN
  split
  · rename_i hc
    obtain ⟨D, h1, h2, h3⟩ := own3_get hS hr
    have hD := own_len (r := (asR a).1) h1 h2
    have t1 := canon_tallies h1
    have t2 := canon_lives h1
    have t3 := canon_cells h1
    have hd := actOf_done h1.sok hc (by omega) (by omega) (by omega) (by omega)
    exact made_snoc hm h1 (done_of hd).1 (actOf_knewS hc) h2
  · exact hm
theorem actsK_made (c : GCur) : ∀ i : Nat, i ≤ 119 → made (actsK c i).out
  | 0, _ => fun i hi => by simp [actsK] at hi
  | i + 1, hi => by
    have hm := actsK_made c i (by omega)
    have hl := actsK_len c i
    exact asN_made hm (actsK_whole c i (by omega)).2 (by omega)
theorem whole_nod {acts : List GAct} (hw : whole acts) : (acts.map (·.dot)).Nodup := by
  have hW := canon_whole hw acts.length (Nat.le_refl _)
  rw [List.take_length] at hW
  have := hW.nod
  rw [List.map_reverse] at this
  exact (List.pairwise_reverse.1 this).imp fun {a b} hab e => hab e.symm
theorem mem_take_nth {l : List GAct} {i j : Nat} (hj : j < i) (hi : i ≤ l.length) : nth l j ∈ l.take i := by
  have h1 : j < (l.take i).length := by rw [List.length_take]; omega
  have : nth (l.take i) j = nth l j := by
    unfold nth
    rw [List.getD_eq_getElem?_getD, List.getD_eq_getElem?_getD, List.getElem?_take_of_lt hj]
  rw [← this]; exact nth_mem h1
theorem sub_whole {l : List GAct} (hw : whole l) (hm : made l) (P : GAct → Bool) (hc : ∀ x, x ∈ l → P x = true → ∀ b, b ∈ l → knows x.knew b.dot = true → P b = true) (hl : l.length ≤ 119) : whole (l.filter P) := by
  have hnod := whole_nod hw
  have key : ∀ i : Nat, i ≤ l.length → whole ((l.take i).filter P) := by
    intro i
    induction i with
    | zero => intro _ j hj; simp at hj
    | succ i ih =>
      intro hi
      rw [take_snoc (by omega), List.filter_append]
      cases hp : P (nth l i)
      · rw [List.filter_cons_of_neg (by simp [hp]), List.filter_nil, List.append_nil]
        exact ih (by omega)
      · rw [List.filter_cons_of_pos hp, List.filter_nil]
        obtain ⟨D0, s0, q1, q2, q3, q4⟩ := hm i (by omega)
        refine whole_snoc (ih (by omega)) q1 q2 (fun b hb => ?_) (fun b hb e => ?_) ?_
        · obtain ⟨j, hj, rfl⟩ := q4 b hb
          refine List.mem_filter.2 ⟨mem_take_nth hj (by omega), ?_⟩
          refine hc _ (nth_mem (by omega)) hp _ (nth_mem (by omega)) ?_
          rw [q3]
          exact (q1.know _).2 ⟨_, hb, rfl⟩
        · have hb1 := (List.mem_filter.1 hb).1
          have hbl := List.mem_of_mem_take hb1
          have hbe := nodup_inj hnod hbl (nth_mem (show i < l.length by omega)) e
          rw [hbe] at hb1
          obtain ⟨j, hj, ej⟩ := mem_nth hb1
          rw [List.length_take] at hj
          have : nth (l.take i) j = nth l j := by
            unfold nth
            rw [List.getD_eq_getElem?_getD, List.getD_eq_getElem?_getD, List.getElem?_take_of_lt (by omega)]
          rw [this] at ej
          have h1 : (l.map (·.dot))[j]'(by rw [List.length_map]; omega) = (l.map (·.dot))[i]'(by rw [List.length_map]; omega) := by
            have g : ∀ (k : Nat) (hk : k < l.length), nth l k = l[k] := fun k hk => by
              unfold nth; rw [List.getD_eq_getElem?_getD, List.getElem?_eq_getElem hk]; rfl
            rw [List.getElem_map, List.getElem_map, ← g j (by omega), ← g i (by omega), ej]
          have := (List.getElem_inj hnod).1 h1
          omega
        · have h1 := List.length_filter_le P (l.take i)
          rw [List.length_take] at h1
          omega
  have := key l.length (Nat.le_refl _)
  rwa [List.take_length] at this
theorem settled_canon (l : List GAct) : ∃ D, Canon D (settled l).1 ∧ (settled l).2 = D.length ∧ ∀ a, a ∈ D → a ∈ l := canon_round l (endK l)
/-- What two become is what all that either knows come to. -/
theorem merge_settled {acts one two : List GAct} (hw : whole acts) (hm : made acts) (hl : acts.length ≤ 50) (h1 : ∀ a, a ∈ one → a ∈ acts) (h2 : ∀ a, a ∈ two → a ∈ acts) :
    settled (acts.filter fun x => knows (mergeState (settled one).1 (settled two).1).know x.dot) = (mergeState (settled one).1 (settled two).1, ((acts.filter fun x => knows (mergeState (settled one).1 (settled two).1).know x.dot).length : Int)) ∧ SOK (mergeState (settled one).1 (settled two).1) := by
  have hnod := whole_nod hw
  obtain ⟨D1, c1, _, s1⟩ := settled_canon one
  obtain ⟨D2, c2, _, s2⟩ := settled_canon two
  have a1 : ∀ a, a ∈ D1 → a ∈ acts := fun a ha => h1 a (s1 a ha)
  have a2 : ∀ a, a ∈ D2 → a ∈ acts := fun a ha => h2 a (s2 a ha)
  have len : ∀ {D : List GAct}, (D.map (·.dot)).Nodup → (∀ a, a ∈ D → a ∈ acts) → D.length ≤ acts.length := fun {D} hn hs => by
    have := nodup_len (m := acts.map (·.dot)) hn (fun d hd => by
      obtain ⟨x, hx, rfl⟩ := List.mem_map.1 hd
      exact List.mem_map.2 ⟨x, hs x hx, rfl⟩)
    simpa using this
  have l1 := len c1.nod a1
  have l2 := len c2.nod a2
  obtain ⟨D, q1, q2, q3, _⟩ := merge_all c1 c2 (fun a b ha hb e => nodup_inj hnod (a1 a ha) (a2 b hb) e) (by omega)
  generalize mergeState (settled one).1 (settled two).1 = m at *
  have aD : ∀ a, a ∈ D → a ∈ acts := fun a ha => by
    rcases (q1 a).1 ha with h | h
    · exact a1 a h
    · exact a2 a h
  have inD : ∀ x, x ∈ acts → (knows m.know x.dot = true ↔ x ∈ D) := fun x hx => by
    rw [q3.know]
    constructor
    · rintro ⟨a, ha, e⟩
      rw [← nodup_inj hnod (aD a ha) hx e]; exact ha
    · exact fun h => ⟨x, h, rfl⟩
  have hwA : whole (acts.filter fun x => knows m.know x.dot) := by
    refine sub_whole hw hm _ (fun x hx hp b hb hk => ?_) (by omega)
    exact knows_in (q3.acts x ((inD x hx).1 hp)).2 hk
  have hlA := List.length_filter_le (fun x : GAct => knows m.know x.dot) acts
  have hS := settled_is hwA (by omega) (fun a => Iff.rfl)
  have hc := canon_whole hwA _ (Nat.le_refl _)
  rw [List.take_length] at hc
  have e : doK (acts.filter fun x => knows m.know x.dot) newS (acts.filter fun x => knows m.know x.dot).length = m := by
    refine canon_eq hc q3 fun x => ?_
    rw [List.mem_reverse, List.mem_filter]
    constructor
    · rintro ⟨h1, h2⟩; exact (inD x h1).1 h2
    · intro h; exact ⟨aD x h, (inD x (aD x h)).2 h⟩
  exact ⟨by rw [hS]; exact Prod.ext e rfl, q3.sok⟩
end Am
namespace Am
open Go
set_option linter.unusedSimpArgs false
set_option linter.unusedVariables false

theorem doK_take {l : List GAct} {s : GState} {k : Nat} (hk : k ≤ l.length) : ∀ i : Nat, i ≤ k → doK (l.take k) s i = doK l s i
  | 0, _ => rfl
  | i + 1, hi => by
    have : nth (l.take k) i = nth l i := by
      unfold nth
      rw [List.getD_eq_getElem?_getD, List.getD_eq_getElem?_getD, List.getElem?_take_of_lt (by omega)]
    rw [doK, doK, doK_take hk i (by omega), this]
theorem part_canon {l : List GAct} (hw : whole l) {k : Nat} (hk : k ≤ l.length) : Canon (l.take k).reverse (doK (l.take k) stateNew (l.take k).length) := by
  have hl : (l.take k).length = k := by rw [List.length_take]; omega
  rw [hl, doK_take hk k (Nat.le_refl _)]
  exact canon_whole hw k hk
theorem take_sub {l : List GAct} {i j : Nat} (h : i ≤ j) : ∀ a, a ∈ (l.take i).reverse → a ∈ (l.take j).reverse := fun a ha => by
  rw [List.mem_reverse] at ha ⊢
  exact (List.take_prefix_take_left h).subset ha
theorem part_delta {l : List GAct} (hw : whole l) (hl : l.length ≤ 20) {i j k : Nat} (h1 : i ≤ j) (h2 : j ≤ k) (h3 : k ≤ l.length) {p a b : GState} (hp : p = doK (l.take i) stateNew (l.take i).length) (ha : a = doK (l.take k) stateNew (l.take k).length) (hb : b = doK (l.take j) stateNew (l.take j).length) :
    deltaOf p a = (deltaRaw p a, true) ∧ (doDelta b (deltaRaw p a) = (a, 0) ∨ ((doDelta b (deltaRaw p a)).2 = 1 ∧ j = k)) ∧ SOK p ∧ SOK a ∧ SOK b := by
  have cp := part_canon hw (k := i) (by omega)
  have ca := part_canon hw (k := k) h3
  have cb := part_canon hw (k := j) (by omega)
  rw [← hp] at cp
  rw [← ha] at ca
  rw [← hb] at cb
  have sp := take_sub (l := l) (show i ≤ k by omega)
  have sb := take_sub (l := l) h1
  have sj := take_sub (l := l) h2
  have li : (l.take i).reverse.length = i := by rw [List.length_reverse, List.length_take]; omega
  have lj : (l.take j).reverse.length = j := by rw [List.length_reverse, List.length_take]; omega
  have lk : (l.take k).reverse.length = k := by rw [List.length_reverse, List.length_take]; omega
  have fj : Fits (l.take j).reverse (l.take k).reverse := fits_sub ca.nod sj
  refine ⟨delta_of cp ca sp (by omega), ?_, cp.sok, ca.sok, cb.sok⟩
  rw [delta_done cp ca cb sp sb fj (by omega)]
  by_cases q : knowIn a.know b.know = true
  · right
    rw [if_pos q]
    refine ⟨rfl, ?_⟩
    have hs := know_same ca cb (fits_symm fj) q
    have := nodup_len (m := (l.take j).reverse.map (·.dot)) ca.nod (fun d hd => by
      obtain ⟨x, hx, rfl⟩ := List.mem_map.1 hd
      exact List.mem_map.2 ⟨x, hs x hx, rfl⟩)
    rw [List.length_map, List.length_map, lj, lk] at this
    omega
  · left
    rw [if_neg q, merge_sub cb ca sj (by omega)]
end Am
