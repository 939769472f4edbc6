/- Two states put together: membership. No condition. -/
import Derived.Test.YtmedpldnoehoiaaGreatD
import Derived.Test.YtmedpldnoehoiaaGreatU1
import Derived.Test.YtmedpldnoehoiaaGreatE56
import Derived.Test.YtmedpldnoehoiaaGreatT
import Derived.Test.YtmedpldnoehoiaaGreatV1
import Derived.Test.YtmedpldnoehoiaaGreatE16
import Derived.Test.YtmedpldnoehoiaaGreatE93a
import Derived.Test.YtmedpldnoehoiaaGreatAm29
import Derived.Test.YtmedpldnoehoiaaGreatAm31
import Derived.Test.YtmedpldnoehoiaaGreatE76
import Derived.Test.YtmedpldnoehoiaaGreatAm37
namespace Am
open Go
set_option linter.unusedSimpArgs false
set_option linter.unusedVariables false

theorem nth_app_l {α : Type} [Cel α] {xs ys : List α} {i : Nat} (h : i < xs.length) : nth (xs ++ ys) i = nth xs i := by
  unfold nth
  rw [List.getD_eq_getElem?_getD, List.getD_eq_getElem?_getD, List.getElem?_append_left h]
theorem nth_app_at {α : Type} [Cel α] {xs : List α} {y : α} : nth (xs ++ [y]) xs.length = y := by
  unfold nth
  rw [List.getD_eq_getElem?_getD, List.getElem?_append_right (Nat.le_refl _)]
  simp
theorem maxK_nth (a b : List Int) : ∀ n j, j < n → nth (maxK a b n) j = max (nth a j) (nth b j)
  | n + 1, j, h => by
    rw [maxK]
    have hl := maxK_len a b n
    by_cases e : j = n
    · subst e
      have := nth_app_at (xs := maxK a b j) (y := max (nth a j) (nth b j))
      rw [hl] at this
      exact this
    · rw [nth_app_l (by omega)]
      exact maxK_nth a b n j (by omega)
theorem knowMax_spec {a b : List Int} (ha : knowOk a = true) (hb : knowOk b = true) : knowOk (knowMax a b) = true ∧ (knowMax a b).length = 3 ∧ ∀ j : Nat, j < 3 → nth (knowMax a b) j = max (nth a j) (nth b j) := by
  have e : knowMax a b = maxK a b a.length := by unfold knowMax; rw [if_pos (by simp [ha, hb])]
  have ha' := ha
  have hb' := hb
  simp only [knowOk, Bool.and_eq_true, decide_eq_true_eq] at ha' hb'
  have hl := maxK_len a b a.length
  have hn : ∀ j : Nat, j < 3 → nth (knowMax a b) j = max (nth a j) (nth b j) := fun j hj => by rw [e]; exact maxK_nth a b _ j (by omega)
  refine ⟨?_, by rw [e]; omega, hn⟩
  simp only [knowOk, Bool.and_eq_true, decide_eq_true_eq]
  refine ⟨by rw [e]; omega, fun j hj => ?_⟩
  have h3 : j < 3 := by rw [e] at hj; omega
  rw [hn j h3]
  have h1 := ha'.2 j (by omega)
  have h2 := hb'.2 j (by omega)
  omega
theorem knows_max {a b : List Int} (ha : knowOk a = true) (hb : knowOk b = true) (d : GDot) : knows (knowMax a b) d = true ↔ knows a d = true ∨ knows b d = true := by
  obtain ⟨h1, h2, h3⟩ := knowMax_spec ha hb
  simp only [knows, h1, ha, hb, Bool.true_and, Bool.and_eq_true, decide_eq_true_eq]
  constructor
  · rintro ⟨hd, hs⟩
    have hr : d.rep.toNat < 3 := by simp only [dotOk, spIn, Bool.and_eq_true, decide_eq_true_eq] at hd; omega
    rw [h3 _ hr] at hs
    by_cases e : d.seq ≤ nth a d.rep.toNat
    · exact .inl ⟨hd, e⟩
    · exact .inr ⟨hd, by omega⟩
  · intro h
    have hd : dotOk d = true := by rcases h with h | h <;> exact h.1
    have hr : d.rep.toNat < 3 := by simp only [dotOk, spIn, Bool.and_eq_true, decide_eq_true_eq] at hd; omega
    refine ⟨hd, ?_⟩
    rw [h3 _ hr]
    rcases h with h | h
    · have := h.2; omega
    · have := h.2; omega
theorem livB_mem {a b : GState} {x : GLive} : x ∈ livB a b b.lives.length ↔ (x ∈ a.lives ∧ keepA b x = true) ∨ (x ∈ b.lives ∧ newB a x = true) := by
  unfold livB
  rw [(insN_perm liveLt (newB a) (livA a b a.lives.length) b.lives b.lives.length).mem_iff, filK_mem (Nat.le_refl _)]
  have e1 : x ∈ livA a b a.lives.length ↔ x ∈ a.lives ∧ keepA b x = true := by
    unfold livA
    rw [filK_filter _ _ _ (Nat.le_refl _), List.take_length, List.mem_filter]
  rw [e1]
  constructor
  · rintro (h | ⟨i, hi, rfl, hp⟩)
    · exact .inl h
    · exact .inr ⟨nth_mem hi, hp⟩
  · rintro (h | ⟨h, hp⟩)
    · exact .inl h
    · obtain ⟨i, hi, e⟩ := mem_nth h
      exact .inr ⟨i, hi, e, hp⟩
theorem talTwo_mem {ka kb : List Int} {x y : List GTally} (hx : x.Pairwise fun a b => tallyLt a b = true) (hy : y.Pairwise fun a b => tallyLt a b = true) {t : GTally} : t ∈ talTwo ka kb x y ↔ (t ∈ x ∧ noMore ka kb t = true) ∨ (t ∈ y ∧ more ka kb t = true) := by
  rw [(talTwo_perm hx hy).2.mem_iff, filK_mem (Nat.le_refl _), filK_filter _ _ _ (Nat.le_refl _), List.take_length, List.mem_filter]
  constructor
  · rintro (h | ⟨i, hi, rfl, hp⟩)
    · exact .inl h
    · exact .inr ⟨nth_mem hi, hp⟩
  · rintro (h | ⟨h, hp⟩)
    · exact .inl h
    · obtain ⟨i, hi, e⟩ := mem_nth h
      exact .inr ⟨i, hi, e, hp⟩
def goneIn (b : List GCell) (d : GDot) : Bool := b.any fun y => decide (y.dot = d) && y.gone
theorem goneIn_iff {b : List GCell} {d : GDot} : goneIn b d = true ↔ ∃ y, y ∈ b ∧ y.dot = d ∧ y.gone = true := by
  simp [goneIn]
theorem goneAt_memI {l : List GCell} {d : GDot} {g : Bool} {c : GCell} : c ∈ goneAt l d g ↔ ∃ y, y ∈ l ∧ c = if y.dot = d then { y with gone := y.gone || g } else y := by
  unfold goneAt
  rw [List.mem_map]
  constructor
  · rintro ⟨y, h, e⟩; exact ⟨y, h, e.symm⟩
  · rintro ⟨y, h, e⟩; exact ⟨y, h, e.symm⟩
theorem cellsA_mem {a b : List GCell} : ∀ {n : Nat}, n ≤ b.length → ∀ {c : GCell}, c ∈ cellsA a b n ↔ (∃ x, x ∈ a ∧ c = { x with gone := x.gone || goneIn (b.take n) x.dot }) ∨ ((∃ i : Nat, i < n ∧ c = nth b i) ∧ hasDot a c.dot = false)
  | 0, _, c => by
    simp only [cellsA, List.take_zero, goneIn, List.any_nil, Bool.or_false]
    constructor
    · intro h; exact .inl ⟨c, h, rfl⟩
    · rintro (⟨x, h, rfl⟩ | ⟨⟨i, hi, _⟩, _⟩)
      · exact h
      · omega
  | n + 1, hn, c => by
    have ih := fun c => cellsA_mem (a := a) (b := b) (n := n) (by omega) (c := c)
    have hg : ∀ d, goneIn (b.take (n + 1)) d = (goneIn (b.take n) d || (decide ((nth b n).dot = d) && (nth b n).gone)) := fun d => by
      rw [take_snoc (by omega)]
      simp [goneIn]
    rw [cellsA]
    split
    · rename_i hd
      rw [goneAt_memI]
      constructor
      · rintro ⟨y, hy, rfl⟩
        rcases (ih y).1 hy with ⟨x, hx, rfl⟩ | ⟨⟨i, hi, rfl⟩, hno⟩
        · left
          refine ⟨x, hx, ?_⟩
          rw [hg]
          by_cases e : x.dot = (nth b n).dot
          · simp [e, Bool.or_assoc]
          · have e' : ¬ (nth b n).dot = x.dot := fun h => e h.symm
            simp [e, e']
        · right
          have hne : ¬ (nth b i).dot = (nth b n).dot := fun e => by rw [e, hd] at hno; cases hno
          rw [if_neg hne]
          exact ⟨⟨i, by omega, rfl⟩, hno⟩
      · rintro (⟨x, hx, rfl⟩ | ⟨⟨i, hi, rfl⟩, hno⟩)
        · refine ⟨{ x with gone := x.gone || goneIn (b.take n) x.dot }, (ih _).2 (.inl ⟨x, hx, rfl⟩), ?_⟩
          rw [hg]
          by_cases e : x.dot = (nth b n).dot
          · simp [e, Bool.or_assoc]
          · have e' : ¬ (nth b n).dot = x.dot := fun h => e h.symm
            simp [e, e']
        · have hin : i ≠ n := fun e => by rw [e, hd] at hno; cases hno
          have hne : ¬ (nth b i).dot = (nth b n).dot := fun e => by rw [e, hd] at hno; cases hno
          exact ⟨nth b i, (ih _).2 (.inr ⟨⟨i, by omega, rfl⟩, hno⟩), by rw [if_neg hne]⟩
    · rename_i hd
      simp only [Bool.not_eq_true] at hd
      rw [List.mem_append, List.mem_singleton, ih]
      have hx0 : ∀ x, x ∈ a → (decide ((nth b n).dot = x.dot) && (nth b n).gone) = false := fun x hx => by
        have : ¬ (nth b n).dot = x.dot := fun e => by
          have := hasDot_iff.2 ⟨x, hx, e.symm⟩
          rw [hd] at this; cases this
        simp [this]
      constructor
      · rintro ((⟨x, hx, rfl⟩ | ⟨⟨i, hi, rfl⟩, hno⟩) | rfl)
        · left; exact ⟨x, hx, by rw [hg, hx0 x hx, Bool.or_false]⟩
        · right; exact ⟨⟨i, by omega, rfl⟩, hno⟩
        · right; exact ⟨⟨n, by omega, rfl⟩, hd⟩
      · rintro (⟨x, hx, rfl⟩ | ⟨⟨i, hi, rfl⟩, hno⟩)
        · left; left; exact ⟨x, hx, by rw [hg, hx0 x hx, Bool.or_false]⟩
        · by_cases e : i = n
          · subst e; right; rfl
          · left; right; exact ⟨⟨i, by omega, rfl⟩, hno⟩
theorem cellsU_mem {a b : List GCell} {c : GCell} : c ∈ cellsU a b ↔ (∃ x, x ∈ a ∧ c = { x with gone := x.gone || goneIn b x.dot }) ∨ (c ∈ b ∧ hasDot a c.dot = false) := by
  unfold cellsU
  rw [(cellsI_perm a b b.length).mem_iff, cellsA_mem (Nat.le_refl _), List.take_length]
  constructor
  · rintro (h | ⟨⟨i, hi, rfl⟩, h⟩)
    · exact .inl h
    · exact .inr ⟨nth_mem hi, h⟩
  · rintro (h | ⟨h1, h⟩)
    · exact .inl h
    · obtain ⟨i, hi, e⟩ := mem_nth h1
      exact .inr ⟨⟨i, hi, e.symm⟩, h⟩
end Am
namespace Am
open Go
set_option linter.unusedSimpArgs false
set_option linter.unusedVariables false

theorem sumV_filter (o : ByteArray) (r : Int) : ∀ D : List GAct, sumV o r D = sumV o r (D.filter (counts o r))
  | [] => rfl
  | a :: D => by
    have ih := sumV_filter o r D
    cases h : counts o r a
    · rw [List.filter_cons_of_neg (by simp [h]), sumV, h, ← ih]; rfl
    · rw [List.filter_cons_of_pos h, sumV, sumV, h, ih]
theorem sumV_same {o : ByteArray} {r : Int} {D D' : List GAct} (h1 : (D.map (·.dot)).Nodup) (h2 : (D'.map (·.dot)).Nodup) (h : ∀ a, counts o r a = true → (a ∈ D ↔ a ∈ D')) : sumV o r D = sumV o r D' := by
  rw [sumV_filter o r D, sumV_filter o r D']
  refine sumV_perm ((List.perm_ext_iff_of_nodup ((nod_map h1).filter _) ((nod_map h2).filter _)).2 fun a => ?_)
  rw [List.mem_filter, List.mem_filter]
  constructor
  · rintro ⟨q1, q2⟩; exact ⟨(h a q2).1 q1, q2⟩
  · rintro ⟨q1, q2⟩; exact ⟨(h a q2).2 q1, q2⟩
theorem knowIn_of {k m : List Int} (hk : knowOk k = true) (hm : knowOk m = true) (h : ∀ j : Nat, j < 3 → nth k j ≤ nth m j) : knowIn k m = true := by
  simp only [knowIn, hk, hm, Bool.true_and, decide_eq_true_eq]
  simp only [knowOk, Bool.and_eq_true, decide_eq_true_eq] at hk
  intro j hj
  exact h j (by omega)
theorem knowIn_at {k m : List Int} (h : knowIn k m = true) : knowOk k = true ∧ knowOk m = true ∧ ∀ j : Nat, j < 3 → nth k j ≤ nth m j := by
  simp only [knowIn, Bool.and_eq_true, decide_eq_true_eq] at h
  have hk := h.1.1
  simp only [knowOk, Bool.and_eq_true, decide_eq_true_eq] at hk
  exact ⟨h.1.1, h.1.2, fun j hj => h.2 j (by omega)⟩
theorem puts_dot {a : GAct} {x : GLive} (h : puts a x) : x.dot = a.dot := by
  rcases h with ⟨_, e⟩ | ⟨_, e⟩ <;> rw [e]

theorem canon_mergeRaw {D1 D2 D : List GAct} {s1 s2 : GState} (h1 : Canon D1 s1) (h2 : Canon D2 s2) (hD : ∀ a, a ∈ D ↔ a ∈ D1 ∨ a ∈ D2) (hn : (D.map (·.dot)).Nodup) (hl : D.length ≤ 120) : Canon D (mergeRaw s1 s2) := by
  have same : ∀ {a b : GAct}, a ∈ D1 → b ∈ D2 → a.dot = b.dot → a = b := fun ha hb e => nodup_inj hn ((hD _).2 (.inl ha)) ((hD _).2 (.inr hb)) e
  have in1 : ∀ {b : GAct}, b ∈ D2 → knows s1.know b.dot = true → b ∈ D1 := fun {b} hb hk => by
    obtain ⟨a, ha, e⟩ := (h1.know _).1 hk
    rw [← same ha hb e]; exact ha
  have in2 : ∀ {a : GAct}, a ∈ D1 → knows s2.know a.dot = true → a ∈ D2 := fun {a} ha hk => by
    obtain ⟨b, hb, e⟩ := (h2.know _).1 hk
    rw [same ha hb e.symm]; exact hb
  have k1 := h1.sok.k
  have k2 := h2.sok.k
  obtain ⟨km, kl, kn⟩ := knowMax_spec k1 k2
  have rng : ∀ {a : GAct}, a ∈ D → 0 ≤ a.dot.rep ∧ a.dot.rep < 3 := fun {a} ha => by
    have : actOk a = true := by
      rcases (hD a).1 ha with ha | ha
      · exact (h1.acts a ha).1
      · exact (h2.acts a ha).1
    have := dot_of this
    omega
  have kn1 : ∀ {a : GAct}, a ∈ D1 → knows s1.know a.dot = true := fun ha => (h1.know _).2 ⟨_, ha, rfl⟩
  have kn2 : ∀ {a : GAct}, a ∈ D2 → knows s2.know a.dot = true := fun ha => (h2.know _).2 ⟨_, ha, rfl⟩
  have mono : ∀ {k m : List Int} {d : GDot}, knowOk m = true → nth k d.rep.toNat ≤ nth m d.rep.toNat → knows k d = true → knows m d = true := fun {k m d} hm hle hk => by
    simp only [knows, hm, Bool.true_and, Bool.and_eq_true, decide_eq_true_eq] at hk ⊢
    exact ⟨hk.1.2, by omega⟩
  -- what is counted
  have cnt1 : ∀ {o : ByteArray} {r : Int}, nth s2.know r.toNat ≤ nth s1.know r.toNat → ∀ a, counts o r a = true → (a ∈ D ↔ a ∈ D1) := fun {o r} hle a hc => by
    simp only [counts, decide_eq_true_eq] at hc
    rw [hD]
    constructor
    · rintro (ha | ha)
      · exact ha
      · exact in1 ha (mono k1 (by rw [hc.2.2]; exact hle) (kn2 ha))
    · exact .inl
  have cnt2 : ∀ {o : ByteArray} {r : Int}, nth s1.know r.toNat ≤ nth s2.know r.toNat → ∀ a, counts o r a = true → (a ∈ D ↔ a ∈ D2) := fun {o r} hle a hc => by
    simp only [counts, decide_eq_true_eq] at hc
    rw [hD]
    constructor
    · rintro (ha | ha)
      · exact in2 ha (mono k2 (by rw [hc.2.2]; exact hle) (kn1 ha))
      · exact ha
    · exact .inr
  have tal : ∀ t : GTally, t ∈ (mergeRaw s1 s2).tallies ↔ (∃ a, a ∈ D ∧ counts t.obj t.rep a = true) ∧ t.sum = sumV t.obj t.rep D % 1000000 := by
    intro t
    show t ∈ talTwo s1.know s2.know s1.tallies s2.tallies ↔ _
    rw [talTwo_mem h1.sok.t3 h2.sok.t3, h1.tal, h2.tal]
    simp only [noMore, more, decide_eq_true_eq]
    rcases Int.lt_or_le (nth s1.know t.rep.toNat) (nth s2.know t.rep.toNat) with g | g
    · have hc := cnt2 (o := t.obj) (r := t.rep) (by omega)
      have e := sumV_same hn h2.nod hc
      rw [e]
      constructor
      · rintro (⟨_, hh⟩ | ⟨⟨⟨a, ha, q⟩, hs⟩, _⟩)
        · omega
        · exact ⟨⟨a, (hc a q).2 ha, q⟩, hs⟩
      · rintro ⟨⟨a, ha, q⟩, hs⟩
        exact .inr ⟨⟨⟨a, (hc a q).1 ha, q⟩, hs⟩, g⟩
    · have hc := cnt1 (o := t.obj) (r := t.rep) g
      have e := sumV_same hn h1.nod hc
      rw [e]
      constructor
      · rintro (⟨⟨⟨a, ha, q⟩, hs⟩, _⟩ | ⟨_, hh⟩)
        · exact ⟨⟨a, (hc a q).2 ha, q⟩, hs⟩
        · omega
      · rintro ⟨⟨a, ha, q⟩, hs⟩
        exact .inl ⟨⟨⟨a, (hc a q).1 ha, q⟩, hs⟩, g⟩
  -- lives
  have no1 : ∀ {x : GLive} {y : GAct}, y ∈ D1 → takes y x → knows s1.know x.dot = true := fun hy ht => knows_in (h1.acts _ hy).2 ht.2.2.1
  have no2 : ∀ {x : GLive} {y : GAct}, y ∈ D2 → takes y x → knows s2.know x.dot = true := fun hy ht => knows_in (h2.acts _ hy).2 ht.2.2.1
  have liv : ∀ x : GLive, x ∈ (mergeRaw s1 s2).lives ↔ (∃ a, a ∈ D ∧ puts a x) ∧ ¬ ∃ y, y ∈ D ∧ takes y x := by
    intro x
    show x ∈ livB s1 s2 s2.lives.length ↔ _
    rw [livB_mem]
    simp only [keepA, newB, Bool.or_eq_true, Bool.not_eq_true', hasX, decide_eq_true_eq]
    constructor
    · rintro (⟨hx, hk⟩ | ⟨hx, hk⟩)
      · obtain ⟨⟨a, ha, hp⟩, hno⟩ := (h1.liv x).1 hx
        refine ⟨⟨a, (hD a).2 (.inl ha), hp⟩, ?_⟩
        rintro ⟨y, hy, ht⟩
        rcases (hD y).1 hy with hy | hy
        · exact hno ⟨y, hy, ht⟩
        · rcases hk with hk | hk
          · rw [no2 hy ht] at hk; cases hk
          · exact ((h2.liv x).1 hk).2 ⟨y, hy, ht⟩
      · obtain ⟨⟨a, ha, hp⟩, hno⟩ := (h2.liv x).1 hx
        refine ⟨⟨a, (hD a).2 (.inr ha), hp⟩, ?_⟩
        rintro ⟨y, hy, ht⟩
        rcases (hD y).1 hy with hy | hy
        · rw [no1 hy ht] at hk; cases hk
        · exact hno ⟨y, hy, ht⟩
    · rintro ⟨⟨a, ha, hp⟩, hno⟩
      have n1 : ¬ ∃ y, y ∈ D1 ∧ takes y x := fun ⟨y, hy, ht⟩ => hno ⟨y, (hD y).2 (.inl hy), ht⟩
      have n2 : ¬ ∃ y, y ∈ D2 ∧ takes y x := fun ⟨y, hy, ht⟩ => hno ⟨y, (hD y).2 (.inr hy), ht⟩
      have hd := puts_dot hp
      have c1 : a ∈ D1 → (x ∈ s1.lives ∧ (knows s2.know x.dot = false ∨ x ∈ s2.lives)) := fun ha => by
        refine ⟨(h1.liv x).2 ⟨⟨a, ha, hp⟩, n1⟩, ?_⟩
        cases hk : knows s2.know x.dot
        · exact .inl rfl
        · right
          rw [hd] at hk
          exact (h2.liv x).2 ⟨⟨a, in2 ha hk, hp⟩, n2⟩
      rcases (hD a).1 ha with ha | ha
      · exact .inl (c1 ha)
      · cases hk : knows s1.know x.dot
        · exact .inr ⟨(h2.liv x).2 ⟨⟨a, ha, hp⟩, n2⟩, rfl⟩
        · rw [hd] at hk
          exact .inl (c1 (in1 ha hk))
  -- cells
  have cut : ∀ d, isCut D d ↔ isCut D1 d ∨ isCut D2 d := fun d => by
    constructor
    · rintro ⟨y, hy, q⟩
      rcases (hD y).1 hy with hy | hy
      · exact .inl ⟨y, hy, q⟩
      · exact .inr ⟨y, hy, q⟩
    · rintro (⟨y, hy, q⟩ | ⟨y, hy, q⟩)
      · exact ⟨y, (hD y).2 (.inl hy), q⟩
      · exact ⟨y, (hD y).2 (.inr hy), q⟩
  have cutk1 : ∀ {d : GDot}, isCut D1 d → knows s1.know d = true := fun {d} ⟨y, hy, q, e⟩ => by
    have := ref_known (h1.acts y hy).1 q
    rw [e] at this
    exact knows_in (h1.acts y hy).2 this
  have cutk2 : ∀ {d : GDot}, isCut D2 d → knows s2.know d = true := fun {d} ⟨y, hy, q, e⟩ => by
    have := ref_known (h2.acts y hy).1 q
    rw [e] at this
    exact knows_in (h2.acts y hy).2 this
  have at2 : ∀ {a : GAct}, a ∈ D2 → a.kind = 6 → ∃ g : Bool, celOf a g ∈ s2.cs ∧ (g = true ↔ isCut D2 a.dot) := fun {a} ha h6 => by
    by_cases q : isCut D2 a.dot
    · exact ⟨true, (h2.cel _).2 ⟨a, ha, h6, rfl, by simpa [celOf] using q⟩, by simpa using q⟩
    · exact ⟨false, (h2.cel _).2 ⟨a, ha, h6, rfl, by simpa [celOf] using q⟩, by simpa using q⟩
  have at1 : ∀ {a : GAct}, a ∈ D1 → a.kind = 6 → ∃ g : Bool, celOf a g ∈ s1.cs ∧ (g = true ↔ isCut D1 a.dot) := fun {a} ha h6 => by
    by_cases q : isCut D1 a.dot
    · exact ⟨true, (h1.cel _).2 ⟨a, ha, h6, rfl, by simpa [celOf] using q⟩, by simpa using q⟩
    · exact ⟨false, (h1.cel _).2 ⟨a, ha, h6, rfl, by simpa [celOf] using q⟩, by simpa using q⟩
  have gin : ∀ {a : GAct}, a ∈ D1 → a.kind = 6 → (goneIn s2.cs a.dot = true ↔ isCut D2 a.dot) := fun {a} ha h6 => by
    rw [goneIn_iff]
    constructor
    · rintro ⟨y, hy, e, g⟩
      obtain ⟨b, hb, _, e2, e3⟩ := (h2.cel y).1 hy
      have e4 : y.dot = b.dot := by rw [e2]; rfl
      rw [← e, e4]
      exact e3.1 g
    · intro hc
      have ha2 := in2 ha (cutk2 hc)
      obtain ⟨g, hg, hgi⟩ := at2 ha2 h6
      exact ⟨_, hg, rfl, hgi.2 hc⟩
  have cel : ∀ c : GCell, c ∈ (mergeRaw s1 s2).cs ↔ ∃ a, a ∈ D ∧ a.kind = 6 ∧ c = celOf a c.gone ∧ (c.gone = true ↔ isCut D a.dot) := by
    intro c
    show c ∈ cellsU s1.cs s2.cs ↔ _
    rw [cellsU_mem]
    constructor
    · rintro (⟨x, hx, rfl⟩ | ⟨hc, hno⟩)
      · obtain ⟨a, ha, h6, e, hg⟩ := (h1.cel x).1 hx
        have ed : x.dot = a.dot := by rw [e]; rfl
        refine ⟨a, (hD a).2 (.inl ha), h6, ?_, ?_⟩
        · rw [e]; rfl
        · simp only [Bool.or_eq_true]
          rw [cut, hg, ed, gin ha h6]
      · obtain ⟨b, hb, h6, e, hg⟩ := (h2.cel c).1 hc
        refine ⟨b, (hD b).2 (.inr hb), h6, e, ?_⟩
        rw [cut, hg]
        constructor
        · exact .inr
        · rintro (q | q)
          · exfalso
            obtain ⟨g, hg1, _⟩ := at1 (in1 hb (cutk1 q)) h6
            have : hasDot s1.cs c.dot = true := hasDot_iff.2 ⟨_, hg1, by rw [e]; rfl⟩
            rw [hno] at this; cases this
          · exact q
    · rintro ⟨a, ha, h6, e, hg⟩
      have one : a ∈ D1 → ∃ x, x ∈ s1.cs ∧ c = { x with gone := x.gone || goneIn s2.cs x.dot } := fun ha => by
        obtain ⟨g, hg1, hg2⟩ := at1 ha h6
        refine ⟨_, hg1, ?_⟩
        have : c.gone = (g || goneIn s2.cs a.dot) := by
          rw [Bool.eq_iff_iff, Bool.or_eq_true, hg, cut, hg2, gin ha h6]
        rw [e, this]; rfl
      rcases (hD a).1 ha with ha1 | ha2
      · exact .inl (one ha1)
      · by_cases hk : knows s1.know a.dot = true
        · exact .inl (one (in1 ha2 hk))
        · right
          refine ⟨(h2.cel c).2 ⟨a, ha2, h6, e, ?_⟩, ?_⟩
          · rw [hg, cut]
            constructor
            · rintro (q | q)
              · exact absurd (cutk1 q) hk
              · exact q
            · exact .inr
          · cases hq : hasDot s1.cs c.dot
            · rfl
            · exfalso
              obtain ⟨x, hx, ex⟩ := hasDot_iff.1 hq
              have := (h1.sok.c2 x hx).1
              rw [ex, e] at this
              exact hk this
  have hacts : ∀ a, a ∈ D → actOk a = true ∧ knowIn a.knew (mergeRaw s1 s2).know = true := fun a ha => by
    rcases (hD a).1 ha with ha | ha
    · obtain ⟨q1, q2⟩ := h1.acts a ha
      obtain ⟨p1, p2, p3⟩ := knowIn_at q2
      refine ⟨q1, knowIn_of p1 km fun j hj => ?_⟩
      show nth a.knew j ≤ nth (knowMax s1.know s2.know) j
      rw [kn j hj]; have := p3 j hj; omega
    · obtain ⟨q1, q2⟩ := h2.acts a ha
      obtain ⟨p1, p2, p3⟩ := knowIn_at q2
      refine ⟨q1, knowIn_of p1 km fun j hj => ?_⟩
      show nth a.knew j ≤ nth (knowMax s1.know s2.know) j
      rw [kn j hj]; have := p3 j hj; omega
  have hknow : ∀ d, knows (mergeRaw s1 s2).know d = true ↔ ∃ a, a ∈ D ∧ a.dot = d := fun d => by
    show knows (knowMax s1.know s2.know) d = true ↔ _
    rw [knows_max k1 k2, h1.know, h2.know]
    constructor
    · rintro (⟨a, ha, e⟩ | ⟨a, ha, e⟩)
      · exact ⟨a, (hD a).2 (.inl ha), e⟩
      · exact ⟨a, (hD a).2 (.inr ha), e⟩
    · rintro ⟨a, ha, e⟩
      rcases (hD a).1 ha with ha | ha
      · exact .inl ⟨a, ha, e⟩
      · exact .inr ⟨a, ha, e⟩
  have lk : ∀ {α : Type} {l : List α} (f : α → GDot), (l.map f).Nodup → (∀ x, x ∈ l → ∃ a, a ∈ D ∧ a.dot = f x) → l.length ≤ 120 := fun {α l} f hnd hx => by
    have := nodup_len (m := D.map (·.dot)) hnd (fun d hd => by
      obtain ⟨x, hm, rfl⟩ := List.mem_map.1 hd
      obtain ⟨a, ha, e⟩ := hx x hm
      exact List.mem_map.2 ⟨a, ha, e⟩)
    simp only [List.length_map] at this
    omega
  have t3 : (mergeRaw s1 s2).tallies.Pairwise fun a b => tallyLt a b = true := (talTwo_perm h1.sok.t3 h2.sok.t3).1
  have l3 : (mergeRaw s1 s2).lives.Pairwise fun a b => liveLt a b = true := (livB_sorted (of_sok h1.sok) (of_sok h2.sok)).1
  have c3 : (mergeRaw s1 s2).cs.Pairwise fun a b => cellLt a b = true := cellsI_sorted h1.sok.c3 h2.sok.c3 _ (Nat.le_refl _)
  have sok : SOK (mergeRaw s1 s2) := by
    refine ⟨km, ?_, fun t ht => ?_, t3, ?_, fun x hx => ?_, l3, ?_, fun c hc => ?_, c3, fun c hc => ?_⟩
    · have hnd : ((mergeRaw s1 s2).tallies.map fun t => (t.obj, t.rep)).Nodup := by
        unfold List.Nodup
        rw [List.pairwise_map]
        refine t3.imp fun {a b} hab e => ?_
        simp only [Prod.mk.injEq] at e
        simp [tallyLt, e.1, e.2, strLt_self] at hab
      have := nodup_len (m := D.map fun a => (a.obj, a.dot.rep)) hnd (fun d hd => by
        obtain ⟨t, ht, rfl⟩ := List.mem_map.1 hd
        obtain ⟨⟨a, ha, hc⟩, _⟩ := (tal t).1 ht
        simp only [counts, decide_eq_true_eq] at hc
        exact List.mem_map.2 ⟨a, ha, by rw [hc.2.1, hc.2.2]⟩)
      simp only [List.length_map] at this
      omega
    · rcases (talTwo_mem h1.sok.t3 h2.sok.t3).1 ht with ⟨q, _⟩ | ⟨q, _⟩
      · exact h1.sok.t2 t q
      · exact h2.sok.t2 t q
    · refine lk (·.dot) (pw_nodup before_Lt (by rw [List.pairwise_map]; exact l3)) fun x hx => ?_
      obtain ⟨⟨a, ha, hp⟩, _⟩ := (liv x).1 hx
      exact ⟨a, ha, (puts_dot hp).symm⟩
    · rcases livB_mem.1 hx with ⟨q, _⟩ | ⟨q, _⟩
      · obtain ⟨r1, r2⟩ := h1.sok.l2 x q
        exact ⟨(knows_max k1 k2 _).2 (.inl r1), r2⟩
      · obtain ⟨r1, r2⟩ := h2.sok.l2 x q
        exact ⟨(knows_max k1 k2 _).2 (.inr r1), r2⟩
    · refine lk (·.dot) (pw_nodup before_Lt (by rw [List.pairwise_map]; exact c3)) fun x hx => ?_
      obtain ⟨a, ha, _, e, _⟩ := (cel x).1 hx
      exact ⟨a, ha, by rw [e]; rfl⟩
    · rcases cellsU_mem.1 hc with ⟨x, q, rfl⟩ | ⟨q, _⟩
      · obtain ⟨r1, r2⟩ := h1.sok.c2 x q
        exact ⟨(knows_max k1 k2 _).2 (.inl r1), r2⟩
      · obtain ⟨r1, r2⟩ := h2.sok.c2 c q
        exact ⟨(knows_max k1 k2 _).2 (.inr r1), r2⟩
    · have there1 : ∀ y, y ∈ s1.cs → ∃ z, z ∈ (mergeRaw s1 s2).cs ∧ z.dot = y.dot ∧ z.obj = y.obj ∧ z.time = y.time := fun y hy => ⟨_, cellsU_mem.2 (.inl ⟨y, hy, rfl⟩), rfl, rfl, rfl⟩
      have there2 : ∀ y, y ∈ s2.cs → ∃ z, z ∈ (mergeRaw s1 s2).cs ∧ z.dot = y.dot ∧ z.obj = y.obj ∧ z.time = y.time := fun y hy => by
        cases hq : hasDot s1.cs y.dot
        · exact ⟨y, cellsU_mem.2 (.inr ⟨hy, hq⟩), rfl, rfl, rfl⟩
        · obtain ⟨x, hx, ex⟩ := hasDot_iff.1 hq
          obtain ⟨z, z1, z2, z3, z4⟩ := there1 x hx
          obtain ⟨a, ha, _, e1, _⟩ := (h1.cel x).1 hx
          obtain ⟨b, hb, _, e2, _⟩ := (h2.cel y).1 hy
          have hab : a = b := same ha hb (by
            have q1 : x.dot = a.dot := by rw [e1]; rfl
            have q2 : y.dot = b.dot := by rw [e2]; rfl
            rw [← q1, ← q2, ex])
          refine ⟨z, z1, by rw [z2, ex], ?_, ?_⟩
          · rw [z3, e1, e2, hab]; rfl
          · rw [z4, e1, e2, hab]; rfl
      rcases cellsU_mem.1 hc with ⟨x, q, rfl⟩ | ⟨q, _⟩
      · rcases h1.sok.c4 x q with e | ⟨y, hy, y1, y2, y3⟩
        · exact .inl e
        · obtain ⟨z, z1, z2, z3, z4⟩ := there1 y hy
          exact .inr ⟨z, z1, by rw [z2, y1], by rw [z3, y2], by rw [z4]; exact y3⟩
      · rcases h2.sok.c4 c q with e | ⟨y, hy, y1, y2, y3⟩
        · exact .inl e
        · obtain ⟨z, z1, z2, z3, z4⟩ := there2 y hy
          exact .inr ⟨z, z1, by rw [z2, y1], by rw [z3, y2], by rw [z4]; exact y3⟩
  exact ⟨sok, hknow, tal, liv, cel, hacts, hn⟩
theorem canon_merge {D1 D2 D : List GAct} {s1 s2 : GState} (h1 : Canon D1 s1) (h2 : Canon D2 s2) (hD : ∀ a, a ∈ D ↔ a ∈ D1 ∨ a ∈ D2) (hn : (D.map (·.dot)).Nodup) (hl : D.length ≤ 120) : mergeState s1 s2 = mergeRaw s1 s2 ∧ Canon D (mergeState s1 s2) := by
  have hc := canon_mergeRaw h1 h2 hD hn hl
  have e : mergeState s1 s2 = mergeRaw s1 s2 := by
    unfold mergeState
    rw [if_pos (by rw [of_sok h1.sok, of_sok h2.sok]; rfl), if_pos (of_sok hc.sok)]
  exact ⟨e, by rw [e]; exact hc⟩
end Am
namespace Am
open Go Go.Proofs
open Cel (cells)
set_option maxRecDepth 100000
set_option linter.unusedSimpArgs false
set_option linter.unusedVariables false

def ddT (c : GCur) : Int × GCur := curN (dotD c).2 9
def ddW (c : GCur) : List Int × GCur := drawsK (ddT c).2 5 3
def ddK (c : GCur) : Int × GCur := curN (ddW c).2 7
def ddO (c : GCur) : ByteArray × GCur := curPick (ddK c).2 objs
def ddN (c : GCur) : List Int := (ddW c).1.set (dotD c).1.rep.toNat ((dotD c).1.seq - 1)
def ddY (c : GCur) : ByteArray × GCur := if spIn (1 + (ddK c).1) 2 5 = true then curPick (ddO c).2 keys else (⟨#[]⟩, (ddO c).2)
def ddV (c : GCur) : Int × GCur := if valued (1 + (ddK c).1) = true then curPick (ddY c).2 vals else (0, (ddY c).2)
def ddR (c : GCur) : GDot × GCur := if 6 ≤ 1 + (ddK c).1 then dotD (ddV c).2 else (⟨0, 0⟩, (ddV c).2)
def ddKind (c : GCur) : Int := if 7 = 1 + (ddK c).1 ∧ knows (ddN c) (ddR c).1 = false then 6 else 1 + (ddK c).1
def ddRef (c : GCur) : GDot := if 6 ≤ 1 + (ddK c).1 ∧ knows (ddN c) (ddR c).1 = true then (ddR c).1 else ⟨0, 0⟩
/-- An act drawn. -/
def actD (c : GCur) : GAct × GCur := (⟨(dotD c).1, 1 + (ddT c).1, ddN c, ddKind c, (ddO c).1, (ddY c).1, (ddV c).1, ddRef c⟩, (ddR c).2)
theorem ddO_ok {c : GCur} (h : c.Ok) : (ddO c).2.Ok := curPick_ok (curN_ok (drawsK_ok (curN_ok (dotD_ok h) _) _ _) _) _
theorem ddY_ok {c : GCur} (h : c.Ok) : (ddY c).2.Ok := by
  unfold ddY
  split
  · exact curPick_ok (ddO_ok h) _
  · exact ddO_ok h
theorem ddV_ok {c : GCur} (h : c.Ok) : (ddV c).2.Ok := by
  unfold ddV
  split
  · exact curPick_ok (ddY_ok h) _
  · exact ddY_ok h
theorem actD_ok {c : GCur} (h : c.Ok) : (actD c).2.Ok := by
  show (ddR c).2.Ok
  unfold ddR
  split
  · exact dotD_ok (ddV_ok h)
  · exact ddV_ok h
theorem ddN_len (c : GCur) : (ddN c).length = 3 := by simp [ddN, ddW, drawsK_len]
theorem actD_Ok (c : GCur) : (actD c).1.Ok := by
  have h1 : (ddO c).1.size ≤ 8 := (objs_ok _).2
  have h2 : (ddY c).1.size ≤ 8 := by
    unfold ddY
    split
    · exact (keys_ok _).2
    · exact Nat.zero_le _
  simp only [GAct.Ok, actD, ddN_len]
  omega

/-- An act turned. -/
def actM (k y : Int) (a : GAct) : GAct :=
  if k = 0 then { a with dot := ⟨a.dot.rep, y.tmod 7⟩ }
  else if k = 1 then { a with time := nth ([0, 10000, 10001] : List Int) (y.tmod 3).toNat }
  else if k = 2 then { a with kind := y.tmod 10 }
  else if k = 3 then { a with key := nth ([⟨#[]⟩, ⟨#[120]⟩, ⟨#[88]⟩] : List ByteArray) (y.tmod 3).toNat }
  else if k = 4 then { a with val := nth ([-1, 5, 1000000] : List Int) (y.tmod 3).toNat }
  else if k = 5 then { a with ref := ⟨y.tmod 4, y.tmod 3⟩ }
  else if k = 6 then { a with knew := a.knew ++ [1] }
  else a
def anyA (c : GCur) : GAct × GCur := (actM (curN c 12).1 (curN (curN c 12).2 60).1 (actD (curN (curN c 12).2 60).2).1, (actD (curN (curN c 12).2 60).2).2)
theorem anyA_ok {c : GCur} (h : c.Ok) : (anyA c).2.Ok := actD_ok (curN_ok (curN_ok h _) _)
theorem anyA_Ok (c : GCur) : (anyA c).1.Ok := by
  have h := actD_Ok (curN (curN c 12).2 60).2
  have hb := curN_bd (curN c 12).2 (n := 60) (by decide)
  have hl : (actD (curN (curN c 12).2 60).2).1.knew.length = 3 := ddN_len _
  have t3 := tmod_bd hb.1 (n := 3) (by decide)
  show (actM (curN c 12).1 (curN (curN c 12).2 60).1 (actD (curN (curN c 12).2 60).2).1).Ok
  simp only [GAct.Ok] at h ⊢
  unfold actM
  split
  · exact h
  split
  · exact h
  split
  · exact h
  split
  · refine ⟨h.1, h.2.1, ?_⟩
    have hm : nth ([⟨#[]⟩, ⟨#[120]⟩, ⟨#[88]⟩] : List ByteArray) ((curN (curN c 12).2 60).1.tmod 3).toNat ∈ ([⟨#[]⟩, ⟨#[120]⟩, ⟨#[88]⟩] : List ByteArray) := nth_mem (by simp; omega)
    simp only [List.mem_cons, List.not_mem_nil, or_false] at hm
    simp only
    rcases hm with e | e | e <;> rw [e] <;> decide
  split
  · exact h
  split
  · exact h
  split
  · refine ⟨by simp only [List.length_append, List.length_singleton]; omega, h.2⟩
  · exact h

end Am
namespace Am
open Go Go.Proofs
open Cel (cells)
set_option maxRecDepth 100000
set_option linter.unusedSimpArgs false
set_option linter.unusedVariables false

def cdK (l : List GAct) (s : GState) : Nat → List Int
  | 0 => []
  | i + 1 => cdK l s i ++ [(doAct (doK l s i) (nth l i)).2]
theorem cdK_len (l : List GAct) (s : GState) : ∀ i, (cdK l s i).length = i
  | 0 => rfl
  | i + 1 => by simp [cdK, cdK_len l s i]
theorem doAct_okW {s : GState} {a : GAct} (hs : s.Ok) (ha : a.Ok) : (doAct s a).1.Ok := by
  by_cases hc : (doAct s a).2 = 0
  · obtain ⟨h1, h2⟩ := done_of hc
    rw [h2]
    exact doneAct_ok hs ha h1.s0.t1 h1.s0.l1 h1.s0.c1
  · rw [doAct_same hc]; exact hs
theorem doK_Ok {l : List GAct} (hl : ∀ a, a ∈ l → a.Ok) {s : GState} (hs : s.Ok) : ∀ i : Nat, i ≤ l.length → (doK l s i).Ok
  | 0, _ => hs
  | i + 1, hi => doAct_okW (doK_Ok hl hs i (by omega)) (hl _ (nth_mem (by omega)))
theorem passK_Ok {l : List GAct} (hl : ∀ a, a ∈ l → a.Ok) {s : GState} (hs : s.Ok) (n : Int) : ∀ i : Nat, i ≤ l.length → (passK l s n i).1.Ok
  | 0, _ => hs
  | i + 1, hi => by
    rw [passK]
    split
    · exact doAct_okW (passK_Ok hl hs n i (by omega)) (hl _ (nth_mem (by omega)))
    · exact passK_Ok hl hs n i (by omega)
theorem passK_n (l : List GAct) (s : GState) (n : Int) : ∀ i : Nat, n ≤ (passK l s n i).2.1 ∧ (passK l s n i).2.1 ≤ n + i
  | 0 => by simp [passK]
  | i + 1 => by
    have := passK_n l s n i
    rw [passK]
    split
    · simp only; omega
    · omega
theorem roundK_Ok {l : List GAct} (hl : ∀ a, a ∈ l → a.Ok) : ∀ k, (roundK l k).1.Ok
  | 0 => stateNew_ok
  | k + 1 => passK_Ok hl (roundK_Ok hl k) _ _ (Nat.le_refl _)
theorem roundK_n (l : List GAct) : ∀ k : Nat, 0 ≤ (roundK l k).2.1 ∧ (roundK l k).2.1 ≤ k * l.length
  | 0 => by simp [roundK]
  | k + 1 => by
    have h1 := roundK_n l k
    have h2 := passK_n l (roundK l k).1 (roundK l k).2.1 l.length
    have e : (roundK l (k + 1)).2.1 = (passK l (roundK l k).1 (roundK l k).2.1 l.length).2.1 := rfl
    have e2 : ((k + 1 : Nat) : Int) * (l.length : Int) = k * l.length + l.length := by push_cast; rw [Int.add_mul, Int.one_mul]
    rw [e, e2]; omega
noncomputable def endK (l : List GAct) : Nat := Classical.choose (roundK_end l)
theorem endK_is (l : List GAct) : endK l ≤ l.length + 1 ∧ (roundK l (endK l)).2.2 = false ∧ ∀ j, j < endK l → (roundK l j).2.2 = true := Classical.choose_spec (roundK_end l)
noncomputable def settled (l : List GAct) : GState × Int := ((roundK l (endK l)).1, (roundK l (endK l)).2.1)


@[simp] def h32 : Hts := { merge := fun _ => false, mergeF := fun _ => false, dr := fun id => if id = 6 then [{ mb := [9] }, { mb := [9] }, { mb := [9] }, { mb := [9] }, { mb := [9] }, { cr := true, mb := [9] }, { mb := [9] }, { mb := [9] }, { mn := [576], mb := [9] }, { cr := true, mb := [26] }, { wr := [576] }, {}] else [] }
set_option maxHeartbeats 8000000 in
theorem f32_ok (s : GState) (l : List GAct) (hs : s.Ok) (hl : ∀ a, a ∈ l → a.Ok) (hn : l.length ≤ 1000000) : FnR Tryz.prog 32 [.agg [.im s.know.length (flat s.know), .im s.tallies.length (flat s.tallies), .im s.lives.length (flat s.lives), .im s.cs.length (flat s.cs)], .v (.im l.length (flat l))] (.tup [.agg [.ow 3 1 (doK l s l.length).know.length (flat (doK l s l.length).know), .ow 117 3 (doK l s l.length).tallies.length (flat (doK l s l.length).tallies), .ow 107 6 (doK l s l.length).lives.length (flat (doK l s l.length).lives), .ow 88 8 (doK l s l.length).cs.length (flat (doK l s l.length).cs)], .v (.ow 3 1 (cdK l s l.length).length (flat (cdK l s l.length)))]) := by
  refine FnW.of_AW TryzT_ok 0 (fn := Tryz.f32) (by kernel_rfl) rfl (by kernel_rfl) rfl rfl rfl ?_; refine AW_of h32 TryzT_ok (by kernel_rfl) ?_
  simp -dsimp
  refine ACallK_of (f111_ok s hs) ?_
  simp -dsimp
  refine AWh_loop (fun i : Nat => i ≤ l.length) (fun i => mkE [(1, .c (.im l.length (flat l))), (4, .box 256 0), (6, .box 384 0), (7, .arr 832), (8, .c (.int .i64 i))] [(256, .box [.nil, .nil, .nil, .nil]), (384, .box [.arr 768, .arr 769, .arr 770, .arr 771]), (768, .arr 0 3 1 (doK l s i).know.length (flat (doK l s i).know)), (769, .arr 0 117 3 (doK l s i).tallies.length (flat (doK l s i).tallies)), (770, .arr 0 107 6 (doK l s i).lives.length (flat (doK l s i).lives)), (771, .arr 0 88 8 (doK l s i).cs.length (flat (doK l s i).cs)), (832, .arr 0 3 1 (cdK l s i).length (flat (cdK l s i)))]) (fun i => l.length - i) 0 (Wk_to [1, 4, 6, 7, 8] [(256, 256), (384, 384), (768, 768), (769, 769), (770, 770), (771, 771), (832, 832)] rfl rfl (by simp [cdK, doK])) (by simp) ?_
  rintro i hi
  have hO := doK_Ok hl hs i hi
  have hcl := cdK_len l s i
  have e1 : doK l s (i + 1) = (doAct (doK l s i) (nth l i)).1 := rfl
  have e2 : cdK l s (i + 1) = cdK l s i ++ [(doAct (doK l s i) (nth l i)).2] := rfl
  have wi : IntKind.i64.wrap ((i : Int) + 1) = i + 1 := wrap64 (by omega) (by omega)
  refine AW_of h32 TryzT_ok (by kernel_rfl) ?_
  rcases Nat.lt_or_ge i l.length with h1 | h1
  · simp -dsimp [h1, ne_of_lt h1]
    repeat (first | refine ⟨by omega, ?_⟩ | refine ⟨by simp [capMax]; omega, ?_⟩ | refine ⟨⟨by omega, by omega⟩, ?_⟩)
    refine ACallK_of (f51_ok (doK l s i) (nth l i) hO (hl _ (nth_mem h1))) ?_
    simp -dsimp [wi]
    repeat (first | refine ⟨by omega, ?_⟩ | refine ⟨by simp [capMax]; omega, ?_⟩ | refine ⟨⟨by omega, by omega⟩, ?_⟩)
    exact Back_of (i + 1) [1, 4, 6, 7, 8] [(256, 256), (384, 384), (768, 1664), (769, 1665), (770, 1666), (771, 1667), (832, 2112)] rfl rfl (by simp [e1, e2]) (by omega) (by omega)
  · obtain rfl : i = l.length := by omega
    simp -dsimp

@[simp] def h19 : Hts := { merge := fun _ => false, mergeF := fun _ => false, dr := fun id => if id = 9 then [{ mb := [8] }, { mb := [8] }, { mb := [8] }, { mb := [8] }, { mb := [8] }, { cr := true, mb := [8] }, { mb := [8] }, { mb := [8] }, { mn := [512], mb := [8] }, { cr := true, mb := [24] }, { wr := [512] }, {}] else [] }
set_option maxHeartbeats 8000000 in
theorem f19_ok (l : List GAct) (hl : ∀ a, a ∈ l → a.Ok) (hn : l.length ≤ 1000000) : FnR Tryz.prog 19 [.v (.im l.length (flat l))] (.tup [.agg [.ow 3 1 ((settled l).1).know.length (flat ((settled l).1).know), .ow 117 3 ((settled l).1).tallies.length (flat ((settled l).1).tallies), .ow 107 6 ((settled l).1).lives.length (flat ((settled l).1).lives), .ow 88 8 ((settled l).1).cs.length (flat ((settled l).1).cs)], .v (.int .i64 ((settled l).2))]) := by
  obtain ⟨n1, n2, n3⟩ := endK_is l
  refine FnW.of_AW TryzT_ok 0 (fn := Tryz.f19) (by kernel_rfl) rfl (by kernel_rfl) rfl rfl rfl ?_; refine AW_of h19 TryzT_ok (by kernel_rfl) ?_
  simp -dsimp
  refine ACallK_of (f33_ok) ?_
  simp -dsimp
  refine AWh_loop (fun k : Nat => k ≤ endK l) (fun k => mkE [(0, .c (.im l.length (flat l))), (2, .box 128 0), (4, .box 256 0), (5, .c (.int .i64 (roundK l k).2.1)), (6, .c (.bool (roundK l k).2.2))] [(128, .box [.nil, .nil, .nil, .nil]), (256, .box [.arr 640, .arr 641, .arr 642, .arr 643]), (640, .arr 0 3 1 (roundK l k).1.know.length (flat (roundK l k).1.know)), (641, .arr 0 117 3 (roundK l k).1.tallies.length (flat (roundK l k).1.tallies)), (642, .arr 0 107 6 (roundK l k).1.lives.length (flat (roundK l k).1.lives)), (643, .arr 0 88 8 (roundK l k).1.cs.length (flat (roundK l k).1.cs))]) (fun k => endK l - k) 0 (Wk_to [0, 2, 4, 5, 6] [(128, 128), (256, 256), (640, 640), (641, 641), (642, 642), (643, 643)] rfl rfl (by simp [roundK, stateNew])) (by simp) ?_
  rintro k hk
  refine AW_of h19 TryzT_ok (by kernel_rfl) ?_
  rcases Nat.lt_or_ge k (endK l) with h1 | h1
  rotate_left
  · obtain rfl : k = endK l := by omega
    simp -dsimp [n2]
    simp [settled]
  have hf := n3 k h1
  have hRO := roundK_Ok hl k
  have hRn := roundK_n l k
  have hkl : k * l.length ≤ 1000001 * 1000000 := Nat.mul_le_mul (by omega) hn
  have hkl' : ((k : Int)) * (l.length : Int) ≤ 1000001000000 := by rw [← Int.natCast_mul]; omega
  have er : roundK l (k + 1) = passK l (roundK l k).1 (roundK l k).2.1 l.length := rfl
  simp -dsimp [hf]
  refine AWh_loop (fun i : Nat => i ≤ l.length) (fun i => mkE [(0, .c (.im l.length (flat l))), (2, .box 128 0), (4, .box 256 0), (5, .c (.int .i64 (passK l (roundK l k).1 (roundK l k).2.1 i).2.1)), (6, .c (.bool (passK l (roundK l k).1 (roundK l k).2.1 i).2.2)), (7, .c (.int .i64 i))] [(128, .box [.nil, .nil, .nil, .nil]), (256, .box [.arr 640, .arr 641, .arr 642, .arr 643]), (640, .arr 0 3 1 (passK l (roundK l k).1 (roundK l k).2.1 i).1.know.length (flat (passK l (roundK l k).1 (roundK l k).2.1 i).1.know)), (641, .arr 0 117 3 (passK l (roundK l k).1 (roundK l k).2.1 i).1.tallies.length (flat (passK l (roundK l k).1 (roundK l k).2.1 i).1.tallies)), (642, .arr 0 107 6 (passK l (roundK l k).1 (roundK l k).2.1 i).1.lives.length (flat (passK l (roundK l k).1 (roundK l k).2.1 i).1.lives)), (643, .arr 0 88 8 (passK l (roundK l k).1 (roundK l k).2.1 i).1.cs.length (flat (passK l (roundK l k).1 (roundK l k).2.1 i).1.cs))]) (fun i => l.length - i) 0 (Wk_to [0, 2, 4, 5, 6, 7] [(128, 128), (256, 256), (640, 640), (641, 641), (642, 642), (643, 643)] rfl rfl (by simp [passK])) (by simp) ?_
  rintro i hi
  have hO := passK_Ok hl hRO (roundK l k).2.1 i hi
  have hpn := passK_n l (roundK l k).1 (roundK l k).2.1 i
  have ep : passK l (roundK l k).1 (roundK l k).2.1 (i + 1) = if (doAct (passK l (roundK l k).1 (roundK l k).2.1 i).1 (nth l i)).2 = 0 then ((doAct (passK l (roundK l k).1 (roundK l k).2.1 i).1 (nth l i)).1, (passK l (roundK l k).1 (roundK l k).2.1 i).2.1 + 1, true) else (passK l (roundK l k).1 (roundK l k).2.1 i) := rfl
  have wi : IntKind.i64.wrap ((i : Int) + 1) = i + 1 := wrap64 (by omega) (by omega)
  have wn : IntKind.i64.wrap ((passK l (roundK l k).1 (roundK l k).2.1 i).2.1 + 1) = (passK l (roundK l k).1 (roundK l k).2.1 i).2.1 + 1 := wrap64 (by omega) (by omega)
  refine AW_of h19 TryzT_ok (by kernel_rfl) ?_
  rcases Nat.lt_or_ge i l.length with h2 | h2
  · simp -dsimp [h2, ne_of_lt h2]
    repeat (first | refine ⟨by omega, ?_⟩ | refine ⟨by simp [capMax]; omega, ?_⟩ | refine ⟨⟨by omega, by omega⟩, ?_⟩)
    refine ACallK_of (f51_ok (passK l (roundK l k).1 (roundK l k).2.1 i).1 (nth l i) hO (hl _ (nth_mem h2))) ?_
    by_cases q : (doAct (passK l (roundK l k).1 (roundK l k).2.1 i).1 (nth l i)).2 = 0
    · rw [if_pos q] at ep
      simp -dsimp [q, wi, wn]
      exact Back_of (i + 1) [0, 2, 4, 5, 6, 7] [(128, 128), (256, 256), (640, 1536), (641, 1537), (642, 1538), (643, 1539)] rfl rfl (by simp [ep]) (by omega) (by omega)
    · rw [if_neg q] at ep
      simp -dsimp [q, wi]
      exact Back_of (i + 1) [0, 2, 4, 5, 6, 7] [(128, 128), (256, 256), (640, 640), (641, 641), (642, 642), (643, 643)] rfl rfl (by simp [ep]) (by omega) (by omega)
  · obtain rfl : i = l.length := by omega
    simp -dsimp
    exact Back_of (k + 1) [0, 2, 4, 5, 6] [(128, 128), (256, 256), (640, 640), (641, 641), (642, 642), (643, 643)] rfl rfl (by simp [er]) (by omega) (by omega)

end Am
namespace Am
open Go Go.Proofs
open Cel (cells)
set_option maxRecDepth 100000
set_option linter.unusedSimpArgs false
set_option linter.unusedVariables false

def get3 (r : Int) (p : GState × GState × GState) : GState := if r = 0 then p.1 else if r = 1 then p.2.1 else p.2.2
def put3 (r : Int) (p : GState × GState × GState) (x : GState) : GState × GState × GState := if r = 0 then (x, p.2.1, p.2.2) else if r = 1 then (p.1, x, p.2.2) else (p.1, p.2.1, x)
structure AS where
  st : GState × GState × GState
  out : List GAct
  c : GCur
def asR (a : AS) : Int × GCur := curN a.c 3
def asO (a : AS) : Int × GCur := curN (asR a).2 3
def asSt (a : AS) : GState × GState × GState := if ((asO a).1 == 0) = true then put3 (asR a).1 a.st (doK a.out (get3 (asR a).1 a.st) a.out.length) else a.st
def asE (a : AS) : GEdit × GCur := editD (asO a).2
def asA (a : AS) : GAct × Int := actOf (get3 (asR a).1 (asSt a)) (asR a).1 (timeOf (get3 (asR a).1 (asSt a)) + 1) (asE a).1
def asN (a : AS) : AS := if (asA a).2 = 0 then ⟨put3 (asR a).1 (asSt a) (doAct (get3 (asR a).1 (asSt a)) (asA a).1).1, a.out ++ [(asA a).1], (asE a).2⟩ else ⟨asSt a, a.out, (asE a).2⟩
def actsK (c : GCur) : Nat → AS
  | 0 => ⟨(stateNew, stateNew, stateNew), [], c⟩
  | i + 1 => asN (actsK c i)
structure ASok (a : AS) (n : Nat) : Prop where
  s0 : SOK a.st.1
  s1 : SOK a.st.2.1
  s2 : SOK a.st.2.2
  o : ∀ x, x ∈ a.out → x.Ok
  n : a.out.length ≤ n
  c : a.c.Ok
theorem doK_sok {l : List GAct} {s : GState} (h : SOK s) : ∀ i, SOK (doK l s i)
  | 0 => h
  | i + 1 => sok_of (doAct_sok (of_sok (doK_sok h i)))
theorem get3_sok {p : GState × GState × GState} (h0 : SOK p.1) (h1 : SOK p.2.1) (h2 : SOK p.2.2) (r : Int) : SOK (get3 r p) := by
  unfold get3
  split
  · exact h0
  split
  · exact h1
  · exact h2
theorem put3_sok {p : GState × GState × GState} (h0 : SOK p.1) (h1 : SOK p.2.1) (h2 : SOK p.2.2) (r : Int) {x : GState} (hx : SOK x) : SOK (put3 r p x).1 ∧ SOK (put3 r p x).2.1 ∧ SOK (put3 r p x).2.2 := by
  unfold put3
  split
  · exact ⟨hx, h1, h2⟩
  split
  · exact ⟨h0, hx, h2⟩
  · exact ⟨h0, h1, hx⟩
theorem asN_ok {a : AS} {n : Nat} (h : ASok a n) : ASok (asN a) (n + 1) := by
  have hS : SOK (asSt a).1 ∧ SOK (asSt a).2.1 ∧ SOK (asSt a).2.2 := by
    unfold asSt
    split
    · exact put3_sok h.s0 h.s1 h.s2 _ (doK_sok (get3_sok h.s0 h.s1 h.s2 _) _)
    · exact ⟨h.s0, h.s1, h.s2⟩
  have hX := get3_sok hS.1 hS.2.1 hS.2.2 (asR a).1
  have hc : (asE a).2.Ok := editD_ok (curN_ok (curN_ok h.c _) _)
  obtain ⟨g1, g2, g3, g4, g5⟩ := editD_good (asO a).2
  have hA : (asA a).1.Ok := actOf_ok (sok_Ok hX) (by show (editD (asO a).2).1.obj.size ≤ _; omega) (by show (editD (asO a).2).1.key.size ≤ _; omega)
  have hn := h.n
  unfold asN
  split
  · obtain ⟨p0, p1, p2⟩ := put3_sok hS.1 hS.2.1 hS.2.2 (asR a).1 (sok_of (doAct_sok (a := (asA a).1) (of_sok hX)))
    refine ⟨p0, p1, p2, fun x hx => ?_, by simp only [List.length_append, List.length_singleton]; omega, hc⟩
    rcases List.mem_append.1 hx with hx | hx
    · exact h.o x hx
    · rw [List.mem_singleton.1 hx]; exact hA
  · exact ⟨hS.1, hS.2.1, hS.2.2, h.o, by show a.out.length ≤ n + 1; omega, hc⟩
theorem actsK_ok {c : GCur} (h : c.Ok) : ∀ i, ASok (actsK c i) i
  | 0 => ⟨stateNew_sok, stateNew_sok, stateNew_sok, by simp [actsK], by simp [actsK], h⟩
  | i + 1 => asN_ok (actsK_ok h i)

@[simp] def h91 : Hts := { merge := fun _ => false, mergeF := fun _ => false, lend := fun f => if f = 93 || f = 95 || f = 133 then [.box []] else [], dr := fun id => if id = 14 then [{ mn := [640000], mb := [58, 61, 12] }, { mn := [640000], mb := [58, 61, 12] }, { mn := [640000], mb := [58, 61, 12] }, { mn := [640000], mb := [58, 61, 12] }, { mn := [640000], mb := [58, 61, 12] }, { mb := [12] }, { mb := [12] }, { mb := [12] }, { mb := [12] }, { cr := true, mb := [12] }, { mn := [640000], mb := [61, 12] }, { mb := [58, 12] }, { wr := [640000], cr := true, mb := [12] }, { cr := true, mb := [12] }, { mb := [12] }, { mb := [12] }, { mn := [768], mb := [12] }, { mn := [640000], cr := true, mb := [58, 61, 62] }, { wr := [768] }, {}] else if id = 16 then [{ mb := [14] }, { mb := [14] }, { mb := [14] }, { mb := [14] }, { mb := [14] }, { cr := true, mb := [14] }, { mb := [14] }, { mb := [14] }, { mn := [896], mb := [14] }, { cr := true, mb := [73] }, { wr := [896] }, {}] else [] }
set_option maxHeartbeats 16000000 in
theorem f91_ok (c : GCur) (hc : c.Ok) (n : Nat) (hn : n ≤ 1000) : FnW Tryz.prog 91 [.ptr [.im c.b.length (flat c.b), .int .i64 c.i, .int .i64 c.h], .v (.int .i64 n)] (.v (.ow 43 10 ((actsK c n).out).length (flatO ((actsK c n).out)))) [.ptr [.im ((actsK c n).c).b.length (flat ((actsK c n).c).b), .int .i64 ((actsK c n).c).i, .int .i64 ((actsK c n).c).h], .any] := by
  refine FnW.of_AW TryzT_ok 1 (fn := Tryz.f91) (by kernel_rfl) rfl (by kernel_rfl) rfl rfl rfl ?_; refine AW_of h91 TryzT_ok (by kernel_rfl) ?_
  simp -dsimp
  refine AWh_loop (fun i : Nat => i ≤ 3) (fun i => mkE [(0, .box 640000 0), (1, .c (.int .i64 n)), (5, .arr 320), (6, .c (.int .i64 i))] [(640000, .box [.c (.im c.b.length (flat c.b)), .c (.int .i64 c.i), .c (.int .i64 c.h)]), (320, .arr 0 29 4 i (List.replicate i [.ow 3 1 stateNew.know.length (flat stateNew.know), .ow 117 3 stateNew.tallies.length (flat stateNew.tallies), .ow 107 6 stateNew.lives.length (flat stateNew.lives), .ow 88 8 stateNew.cs.length (flat stateNew.cs)]).flatten)]) (fun i => 3 - i) 0 (Wk_to [0, 1, 5, 6] [(640000, 640000), (320, 1024)] rfl rfl (by simp)) (by simp) ?_
  rintro i hi
  refine AW_of h91 TryzT_ok (by kernel_rfl) ?_
  have hi4 : i = 0 ∨ i = 1 ∨ i = 2 ∨ i = 3 := by omega
  rcases hi4 with rfl | rfl | rfl | rfl
  · simp -dsimp
    refine ACallK_of (f33_ok) ?_
    simp -dsimp
    refine ⟨by simp [capMax], ?_⟩
    exact Back_of 1 [0, 1, 5, 6] [(640000, 640000), (320, 1536)] rfl rfl (by simp [List.replicate, show IntKind.i64.wrap 1 = 1 from by decide]) (by omega) (by omega)
  · simp -dsimp
    refine ACallK_of (f33_ok) ?_
    simp -dsimp
    refine ⟨by simp [capMax], ?_⟩
    exact Back_of 2 [0, 1, 5, 6] [(640000, 640000), (320, 1536)] rfl rfl (by simp [List.replicate, show IntKind.i64.wrap 2 = 2 from by decide]) (by omega) (by omega)
  · simp -dsimp
    refine ACallK_of (f33_ok) ?_
    simp -dsimp
    refine ⟨by simp [capMax], ?_⟩
    exact Back_of 3 [0, 1, 5, 6] [(640000, 640000), (320, 1536)] rfl rfl (by simp [List.replicate, show IntKind.i64.wrap 3 = 3 from by decide]) (by omega) (by omega)
  simp -dsimp [List.replicate]
  refine AWh_loop (fun i : Nat => i ≤ n) (fun i : Nat => mkE [(0, .box 640000 0), (1, .c (.int .i64 n)), (5, .arr 320), (7, .arr 448), (8, .c (.int .i64 i))] [(640000, .box [.c (.im ((actsK c i).c).b.length (flat ((actsK c i).c).b)), .c (.int .i64 ((actsK c i).c).i), .c (.int .i64 ((actsK c i).c).h)]), (320, .arr 0 29 4 3 [.ow 3 1 ((actsK c i).st.1).know.length (flat ((actsK c i).st.1).know), .ow 117 3 ((actsK c i).st.1).tallies.length (flat ((actsK c i).st.1).tallies), .ow 107 6 ((actsK c i).st.1).lives.length (flat ((actsK c i).st.1).lives), .ow 88 8 ((actsK c i).st.1).cs.length (flat ((actsK c i).st.1).cs), .ow 3 1 ((actsK c i).st.2.1).know.length (flat ((actsK c i).st.2.1).know), .ow 117 3 ((actsK c i).st.2.1).tallies.length (flat ((actsK c i).st.2.1).tallies), .ow 107 6 ((actsK c i).st.2.1).lives.length (flat ((actsK c i).st.2.1).lives), .ow 88 8 ((actsK c i).st.2.1).cs.length (flat ((actsK c i).st.2.1).cs), .ow 3 1 ((actsK c i).st.2.2).know.length (flat ((actsK c i).st.2.2).know), .ow 117 3 ((actsK c i).st.2.2).tallies.length (flat ((actsK c i).st.2.2).tallies), .ow 107 6 ((actsK c i).st.2.2).lives.length (flat ((actsK c i).st.2.2).lives), .ow 88 8 ((actsK c i).st.2.2).cs.length (flat ((actsK c i).st.2.2).cs)]), (448, .arr 0 43 10 (actsK c i).out.length (flatO (actsK c i).out))]) (fun i => n - i) 0 (Wk_to [0, 1, 5, 7, 8] [(640000, 640000), (320, 320), (448, 1600)] rfl rfl (by simp [actsK])) (by simp) ?_
  rintro i hi
  have hA := actsK_ok hc i
  have eN : actsK c (i + 1) = asN (actsK c i) := rfl
  refine AW_of h91 TryzT_ok (by kernel_rfl) ?_
  rcases Nat.lt_or_ge i n with h1 | h1
  rotate_left
  · obtain rfl : i = n := by omega
    simp -dsimp
  have wi : IntKind.i64.wrap ((i : Int) + 1) = i + 1 := wrap64 (by omega) (by omega)
  generalize actsK c i = a at *
  have hN := asN_ok hA
  obtain ⟨⟨p0, p1, p2⟩, out, c1⟩ := a
  obtain ⟨k0, k1, k2, ko, kn, kc⟩ := hA
  simp only at k0 k1 k2 ko kn kc
  have hb := curN_bd c1 (n := 3) (by decide)
  have c2 : (curN c1 3).2.Ok := curN_ok kc _
  have c3 : (curN (curN c1 3).2 3).2.Ok := curN_ok c2 _
  obtain ⟨g1, g2, g3, g4, g5⟩ := editD_good (curN (curN c1 3).2 3).2
  simp -dsimp [h1]
  refine ACallW_args (by intro us; simp -dsimp; exact ⟨rfl, rfl, rfl⟩) ?_
  refine ACallC_of (fun us => f93_ok c1 kc 3) (by intro us; simp -dsimp; exact ⟨rfl, rfl⟩) ?_
  simp -dsimp
  refine ACallW_args (by intro us; simp -dsimp; exact ⟨rfl, rfl, rfl⟩) ?_
  refine ACallC_of (fun us => f95_ok (curN c1 3).2 c2 3) (by intro us; simp -dsimp; exact ⟨rfl, rfl⟩) ?_
  have hr3 : (curN c1 3).1 = 0 ∨ (curN c1 3).1 = 1 ∨ (curN c1 3).1 = 2 := by omega
  rcases hr3 with e | e | e
  · cases q : ((curN (curN c1 3).2 3).1 == 0)
    · have hX : SOK p0 := k0
      have hXO := sok_Ok hX
      have hXO2 := hXO
      simp only [GState.Ok] at hXO2
      have ht := timeOf_bd hX
      have wt : IntKind.i64.wrap (timeOf p0 + 1) = timeOf p0 + 1 := wrap64 (by omega) (by omega)
      simp -dsimp [e]
      repeat (first | refine ⟨by omega, ?_⟩ | refine ⟨by simp [capMax]; omega, ?_⟩ | refine ⟨⟨by omega, by omega⟩, ?_⟩)
      refine ACallK_of (f99_ok p0 (by omega)) ?_
      simp -dsimp [wt, e]
      repeat (first | refine ⟨by omega, ?_⟩ | refine ⟨by simp [capMax]; omega, ?_⟩ | refine ⟨⟨by omega, by omega⟩, ?_⟩)
      refine ACallW_args (by intro us; simp -dsimp; exact ⟨rfl, rfl, rfl⟩) ?_
      refine ACallC_of (fun us => f133_ok (curN (curN c1 3).2 3).2 c3) (by intro us; simp -dsimp; exact ⟨rfl, rfl⟩) ?_
      simp -dsimp [e]
      repeat (first | refine ⟨by omega, ?_⟩ | refine ⟨by simp [capMax]; omega, ?_⟩ | refine ⟨⟨by omega, by omega⟩, ?_⟩)
      refine ACallK_of (f46_ok p0 0 (timeOf p0 + 1) (editD (curN (curN c1 3).2 3).2).1 hXO (by omega) (by omega) (by omega)) ?_
      have hAo : (actOf p0 0 (timeOf p0 + 1) (editD (curN (curN c1 3).2 3).2).1).1.Ok := actOf_ok hXO (by omega) (by omega)
      by_cases qa : (actOf p0 0 (timeOf p0 + 1) (editD (curN (curN c1 3).2 3).2).1).2 = 0
      · have eM : asN ⟨(p0, p1, p2), out, c1⟩ = ⟨((doAct p0 (actOf p0 0 (timeOf p0 + 1) (editD (curN (curN c1 3).2 3).2).1).1).1, p1, p2), out ++ [(actOf p0 0 (timeOf p0 + 1) (editD (curN (curN c1 3).2 3).2).1).1], (editD (curN (curN c1 3).2 3).2).2⟩ := by
          simp [asN, asA, asSt, asO, asR, asE, get3, put3, e, q, qa]
        generalize actOf p0 0 (timeOf p0 + 1) (editD (curN (curN c1 3).2 3).2).1 = A at *
        simp -dsimp [qa, e]
        repeat (first | refine ⟨by omega, ?_⟩ | refine ⟨by simp [capMax]; omega, ?_⟩ | refine ⟨⟨by omega, by omega⟩, ?_⟩)
        refine ACallK_of (f51_ok p0 A.1 hXO hAo) ?_
        simp -dsimp [e, wi]
        repeat (first | refine ⟨by omega, ?_⟩ | refine ⟨by simp [capMax]; omega, ?_⟩ | refine ⟨⟨by omega, by omega⟩, ?_⟩)
        exact Back_of (i + 1) [0, 1, 5, 7, 8] [(640000, 640000), (320, 320), (448, 5312)] rfl rfl (by simp [eN, eM]) (by omega) (by omega)
      · have eM : asN ⟨(p0, p1, p2), out, c1⟩ = ⟨(p0, p1, p2), out, (editD (curN (curN c1 3).2 3).2).2⟩ := by
          simp [asN, asA, asSt, asO, asR, asE, get3, put3, e, q, qa]
        generalize actOf p0 0 (timeOf p0 + 1) (editD (curN (curN c1 3).2 3).2).1 = A at *
        simp -dsimp [qa, e, wi]
        repeat (first | refine ⟨by omega, ?_⟩ | refine ⟨by simp [capMax]; omega, ?_⟩ | refine ⟨⟨by omega, by omega⟩, ?_⟩)
        exact Back_of (i + 1) [0, 1, 5, 7, 8] [(640000, 640000), (320, 320), (448, 448)] rfl rfl (by simp [eN, eM]) (by omega) (by omega)
    · have hX : SOK (doK out p0 out.length) := (doK_sok k0 out.length)
      have hXO := sok_Ok hX
      have hXO2 := hXO
      simp only [GState.Ok] at hXO2
      have ht := timeOf_bd hX
      have wt : IntKind.i64.wrap (timeOf (doK out p0 out.length) + 1) = timeOf (doK out p0 out.length) + 1 := wrap64 (by omega) (by omega)
      simp -dsimp [e]
      repeat (first | refine ⟨by omega, ?_⟩ | refine ⟨by simp [capMax]; omega, ?_⟩ | refine ⟨⟨by omega, by omega⟩, ?_⟩)
      refine ACallK_of (f32_ok p0 out (sok_Ok k0) ko (by omega)) ?_
      simp -dsimp [e]
      repeat (first | refine ⟨by omega, ?_⟩ | refine ⟨by simp [capMax]; omega, ?_⟩ | refine ⟨⟨by omega, by omega⟩, ?_⟩)
      refine ACallK_of (f99_ok (doK out p0 out.length) (by omega)) ?_
      simp -dsimp [wt, e]
      repeat (first | refine ⟨by omega, ?_⟩ | refine ⟨by simp [capMax]; omega, ?_⟩ | refine ⟨⟨by omega, by omega⟩, ?_⟩)
      refine ACallW_args (by intro us; simp -dsimp; exact ⟨rfl, rfl, rfl⟩) ?_
      refine ACallC_of (fun us => f133_ok (curN (curN c1 3).2 3).2 c3) (by intro us; simp -dsimp; exact ⟨rfl, rfl⟩) ?_
      simp -dsimp [e]
      repeat (first | refine ⟨by omega, ?_⟩ | refine ⟨by simp [capMax]; omega, ?_⟩ | refine ⟨⟨by omega, by omega⟩, ?_⟩)
      refine ACallK_of (f46_ok (doK out p0 out.length) 0 (timeOf (doK out p0 out.length) + 1) (editD (curN (curN c1 3).2 3).2).1 hXO (by omega) (by omega) (by omega)) ?_
      have hAo : (actOf (doK out p0 out.length) 0 (timeOf (doK out p0 out.length) + 1) (editD (curN (curN c1 3).2 3).2).1).1.Ok := actOf_ok hXO (by omega) (by omega)
      by_cases qa : (actOf (doK out p0 out.length) 0 (timeOf (doK out p0 out.length) + 1) (editD (curN (curN c1 3).2 3).2).1).2 = 0
      · have eM : asN ⟨(p0, p1, p2), out, c1⟩ = ⟨((doAct (doK out p0 out.length) (actOf (doK out p0 out.length) 0 (timeOf (doK out p0 out.length) + 1) (editD (curN (curN c1 3).2 3).2).1).1).1, p1, p2), out ++ [(actOf (doK out p0 out.length) 0 (timeOf (doK out p0 out.length) + 1) (editD (curN (curN c1 3).2 3).2).1).1], (editD (curN (curN c1 3).2 3).2).2⟩ := by
          simp [asN, asA, asSt, asO, asR, asE, get3, put3, e, q, qa]
        generalize actOf (doK out p0 out.length) 0 (timeOf (doK out p0 out.length) + 1) (editD (curN (curN c1 3).2 3).2).1 = A at *
        simp -dsimp [qa, e]
        repeat (first | refine ⟨by omega, ?_⟩ | refine ⟨by simp [capMax]; omega, ?_⟩ | refine ⟨⟨by omega, by omega⟩, ?_⟩)
        refine ACallK_of (f51_ok (doK out p0 out.length) A.1 hXO hAo) ?_
        simp -dsimp [e, wi]
        repeat (first | refine ⟨by omega, ?_⟩ | refine ⟨by simp [capMax]; omega, ?_⟩ | refine ⟨⟨by omega, by omega⟩, ?_⟩)
        exact Back_of (i + 1) [0, 1, 5, 7, 8] [(640000, 640000), (320, 320), (448, 5312)] rfl rfl (by simp [eN, eM]) (by omega) (by omega)
      · have eM : asN ⟨(p0, p1, p2), out, c1⟩ = ⟨((doK out p0 out.length), p1, p2), out, (editD (curN (curN c1 3).2 3).2).2⟩ := by
          simp [asN, asA, asSt, asO, asR, asE, get3, put3, e, q, qa]
        generalize actOf (doK out p0 out.length) 0 (timeOf (doK out p0 out.length) + 1) (editD (curN (curN c1 3).2 3).2).1 = A at *
        simp -dsimp [qa, e, wi]
        repeat (first | refine ⟨by omega, ?_⟩ | refine ⟨by simp [capMax]; omega, ?_⟩ | refine ⟨⟨by omega, by omega⟩, ?_⟩)
        exact Back_of (i + 1) [0, 1, 5, 7, 8] [(640000, 640000), (320, 320), (448, 448)] rfl rfl (by simp [eN, eM]) (by omega) (by omega)
  · cases q : ((curN (curN c1 3).2 3).1 == 0)
    · have hX : SOK p1 := k1
      have hXO := sok_Ok hX
      have hXO2 := hXO
      simp only [GState.Ok] at hXO2
      have ht := timeOf_bd hX
      have wt : IntKind.i64.wrap (timeOf p1 + 1) = timeOf p1 + 1 := wrap64 (by omega) (by omega)
      simp -dsimp [e]
      repeat (first | refine ⟨by omega, ?_⟩ | refine ⟨by simp [capMax]; omega, ?_⟩ | refine ⟨⟨by omega, by omega⟩, ?_⟩)
      refine ACallK_of (f99_ok p1 (by omega)) ?_
      simp -dsimp [wt, e]
      repeat (first | refine ⟨by omega, ?_⟩ | refine ⟨by simp [capMax]; omega, ?_⟩ | refine ⟨⟨by omega, by omega⟩, ?_⟩)
      refine ACallW_args (by intro us; simp -dsimp; exact ⟨rfl, rfl, rfl⟩) ?_
      refine ACallC_of (fun us => f133_ok (curN (curN c1 3).2 3).2 c3) (by intro us; simp -dsimp; exact ⟨rfl, rfl⟩) ?_
      simp -dsimp [e]
      repeat (first | refine ⟨by omega, ?_⟩ | refine ⟨by simp [capMax]; omega, ?_⟩ | refine ⟨⟨by omega, by omega⟩, ?_⟩)
      refine ACallK_of (f46_ok p1 1 (timeOf p1 + 1) (editD (curN (curN c1 3).2 3).2).1 hXO (by omega) (by omega) (by omega)) ?_
      have hAo : (actOf p1 1 (timeOf p1 + 1) (editD (curN (curN c1 3).2 3).2).1).1.Ok := actOf_ok hXO (by omega) (by omega)
      by_cases qa : (actOf p1 1 (timeOf p1 + 1) (editD (curN (curN c1 3).2 3).2).1).2 = 0
      · have eM : asN ⟨(p0, p1, p2), out, c1⟩ = ⟨(p0, (doAct p1 (actOf p1 1 (timeOf p1 + 1) (editD (curN (curN c1 3).2 3).2).1).1).1, p2), out ++ [(actOf p1 1 (timeOf p1 + 1) (editD (curN (curN c1 3).2 3).2).1).1], (editD (curN (curN c1 3).2 3).2).2⟩ := by
          simp [asN, asA, asSt, asO, asR, asE, get3, put3, e, q, qa]
        generalize actOf p1 1 (timeOf p1 + 1) (editD (curN (curN c1 3).2 3).2).1 = A at *
        simp -dsimp [qa, e]
        repeat (first | refine ⟨by omega, ?_⟩ | refine ⟨by simp [capMax]; omega, ?_⟩ | refine ⟨⟨by omega, by omega⟩, ?_⟩)
        refine ACallK_of (f51_ok p1 A.1 hXO hAo) ?_
        simp -dsimp [e, wi]
        repeat (first | refine ⟨by omega, ?_⟩ | refine ⟨by simp [capMax]; omega, ?_⟩ | refine ⟨⟨by omega, by omega⟩, ?_⟩)
        exact Back_of (i + 1) [0, 1, 5, 7, 8] [(640000, 640000), (320, 320), (448, 5312)] rfl rfl (by simp [eN, eM]) (by omega) (by omega)
      · have eM : asN ⟨(p0, p1, p2), out, c1⟩ = ⟨(p0, p1, p2), out, (editD (curN (curN c1 3).2 3).2).2⟩ := by
          simp [asN, asA, asSt, asO, asR, asE, get3, put3, e, q, qa]
        generalize actOf p1 1 (timeOf p1 + 1) (editD (curN (curN c1 3).2 3).2).1 = A at *
        simp -dsimp [qa, e, wi]
        repeat (first | refine ⟨by omega, ?_⟩ | refine ⟨by simp [capMax]; omega, ?_⟩ | refine ⟨⟨by omega, by omega⟩, ?_⟩)
        exact Back_of (i + 1) [0, 1, 5, 7, 8] [(640000, 640000), (320, 320), (448, 448)] rfl rfl (by simp [eN, eM]) (by omega) (by omega)
    · have hX : SOK (doK out p1 out.length) := (doK_sok k1 out.length)
      have hXO := sok_Ok hX
      have hXO2 := hXO
      simp only [GState.Ok] at hXO2
      have ht := timeOf_bd hX
      have wt : IntKind.i64.wrap (timeOf (doK out p1 out.length) + 1) = timeOf (doK out p1 out.length) + 1 := wrap64 (by omega) (by omega)
      simp -dsimp [e]
      repeat (first | refine ⟨by omega, ?_⟩ | refine ⟨by simp [capMax]; omega, ?_⟩ | refine ⟨⟨by omega, by omega⟩, ?_⟩)
      refine ACallK_of (f32_ok p1 out (sok_Ok k1) ko (by omega)) ?_
      simp -dsimp [e]
      repeat (first | refine ⟨by omega, ?_⟩ | refine ⟨by simp [capMax]; omega, ?_⟩ | refine ⟨⟨by omega, by omega⟩, ?_⟩)
      refine ACallK_of (f99_ok (doK out p1 out.length) (by omega)) ?_
      simp -dsimp [wt, e]
      repeat (first | refine ⟨by omega, ?_⟩ | refine ⟨by simp [capMax]; omega, ?_⟩ | refine ⟨⟨by omega, by omega⟩, ?_⟩)
      refine ACallW_args (by intro us; simp -dsimp; exact ⟨rfl, rfl, rfl⟩) ?_
      refine ACallC_of (fun us => f133_ok (curN (curN c1 3).2 3).2 c3) (by intro us; simp -dsimp; exact ⟨rfl, rfl⟩) ?_
      simp -dsimp [e]
      repeat (first | refine ⟨by omega, ?_⟩ | refine ⟨by simp [capMax]; omega, ?_⟩ | refine ⟨⟨by omega, by omega⟩, ?_⟩)
      refine ACallK_of (f46_ok (doK out p1 out.length) 1 (timeOf (doK out p1 out.length) + 1) (editD (curN (curN c1 3).2 3).2).1 hXO (by omega) (by omega) (by omega)) ?_
      have hAo : (actOf (doK out p1 out.length) 1 (timeOf (doK out p1 out.length) + 1) (editD (curN (curN c1 3).2 3).2).1).1.Ok := actOf_ok hXO (by omega) (by omega)
      by_cases qa : (actOf (doK out p1 out.length) 1 (timeOf (doK out p1 out.length) + 1) (editD (curN (curN c1 3).2 3).2).1).2 = 0
      · have eM : asN ⟨(p0, p1, p2), out, c1⟩ = ⟨(p0, (doAct (doK out p1 out.length) (actOf (doK out p1 out.length) 1 (timeOf (doK out p1 out.length) + 1) (editD (curN (curN c1 3).2 3).2).1).1).1, p2), out ++ [(actOf (doK out p1 out.length) 1 (timeOf (doK out p1 out.length) + 1) (editD (curN (curN c1 3).2 3).2).1).1], (editD (curN (curN c1 3).2 3).2).2⟩ := by
          simp [asN, asA, asSt, asO, asR, asE, get3, put3, e, q, qa]
        generalize actOf (doK out p1 out.length) 1 (timeOf (doK out p1 out.length) + 1) (editD (curN (curN c1 3).2 3).2).1 = A at *
        simp -dsimp [qa, e]
        repeat (first | refine ⟨by omega, ?_⟩ | refine ⟨by simp [capMax]; omega, ?_⟩ | refine ⟨⟨by omega, by omega⟩, ?_⟩)
        refine ACallK_of (f51_ok (doK out p1 out.length) A.1 hXO hAo) ?_
        simp -dsimp [e, wi]
        repeat (first | refine ⟨by omega, ?_⟩ | refine ⟨by simp [capMax]; omega, ?_⟩ | refine ⟨⟨by omega, by omega⟩, ?_⟩)
        exact Back_of (i + 1) [0, 1, 5, 7, 8] [(640000, 640000), (320, 320), (448, 5312)] rfl rfl (by simp [eN, eM]) (by omega) (by omega)
      · have eM : asN ⟨(p0, p1, p2), out, c1⟩ = ⟨(p0, (doK out p1 out.length), p2), out, (editD (curN (curN c1 3).2 3).2).2⟩ := by
          simp [asN, asA, asSt, asO, asR, asE, get3, put3, e, q, qa]
        generalize actOf (doK out p1 out.length) 1 (timeOf (doK out p1 out.length) + 1) (editD (curN (curN c1 3).2 3).2).1 = A at *
        simp -dsimp [qa, e, wi]
        repeat (first | refine ⟨by omega, ?_⟩ | refine ⟨by simp [capMax]; omega, ?_⟩ | refine ⟨⟨by omega, by omega⟩, ?_⟩)
        exact Back_of (i + 1) [0, 1, 5, 7, 8] [(640000, 640000), (320, 320), (448, 448)] rfl rfl (by simp [eN, eM]) (by omega) (by omega)
  · cases q : ((curN (curN c1 3).2 3).1 == 0)
    · have hX : SOK p2 := k2
      have hXO := sok_Ok hX
      have hXO2 := hXO
      simp only [GState.Ok] at hXO2
      have ht := timeOf_bd hX
      have wt : IntKind.i64.wrap (timeOf p2 + 1) = timeOf p2 + 1 := wrap64 (by omega) (by omega)
      simp -dsimp [e]
      repeat (first | refine ⟨by omega, ?_⟩ | refine ⟨by simp [capMax]; omega, ?_⟩ | refine ⟨⟨by omega, by omega⟩, ?_⟩)
      refine ACallK_of (f99_ok p2 (by omega)) ?_
      simp -dsimp [wt, e]
      repeat (first | refine ⟨by omega, ?_⟩ | refine ⟨by simp [capMax]; omega, ?_⟩ | refine ⟨⟨by omega, by omega⟩, ?_⟩)
      refine ACallW_args (by intro us; simp -dsimp; exact ⟨rfl, rfl, rfl⟩) ?_
      refine ACallC_of (fun us => f133_ok (curN (curN c1 3).2 3).2 c3) (by intro us; simp -dsimp; exact ⟨rfl, rfl⟩) ?_
      simp -dsimp [e]
      repeat (first | refine ⟨by omega, ?_⟩ | refine ⟨by simp [capMax]; omega, ?_⟩ | refine ⟨⟨by omega, by omega⟩, ?_⟩)
      refine ACallK_of (f46_ok p2 2 (timeOf p2 + 1) (editD (curN (curN c1 3).2 3).2).1 hXO (by omega) (by omega) (by omega)) ?_
      have hAo : (actOf p2 2 (timeOf p2 + 1) (editD (curN (curN c1 3).2 3).2).1).1.Ok := actOf_ok hXO (by omega) (by omega)
      by_cases qa : (actOf p2 2 (timeOf p2 + 1) (editD (curN (curN c1 3).2 3).2).1).2 = 0
      · have eM : asN ⟨(p0, p1, p2), out, c1⟩ = ⟨(p0, p1, (doAct p2 (actOf p2 2 (timeOf p2 + 1) (editD (curN (curN c1 3).2 3).2).1).1).1), out ++ [(actOf p2 2 (timeOf p2 + 1) (editD (curN (curN c1 3).2 3).2).1).1], (editD (curN (curN c1 3).2 3).2).2⟩ := by
          simp [asN, asA, asSt, asO, asR, asE, get3, put3, e, q, qa]
        generalize actOf p2 2 (timeOf p2 + 1) (editD (curN (curN c1 3).2 3).2).1 = A at *
        simp -dsimp [qa, e]
        repeat (first | refine ⟨by omega, ?_⟩ | refine ⟨by simp [capMax]; omega, ?_⟩ | refine ⟨⟨by omega, by omega⟩, ?_⟩)
        refine ACallK_of (f51_ok p2 A.1 hXO hAo) ?_
        simp -dsimp [e, wi]
        repeat (first | refine ⟨by omega, ?_⟩ | refine ⟨by simp [capMax]; omega, ?_⟩ | refine ⟨⟨by omega, by omega⟩, ?_⟩)
        exact Back_of (i + 1) [0, 1, 5, 7, 8] [(640000, 640000), (320, 320), (448, 5312)] rfl rfl (by simp [eN, eM]) (by omega) (by omega)
      · have eM : asN ⟨(p0, p1, p2), out, c1⟩ = ⟨(p0, p1, p2), out, (editD (curN (curN c1 3).2 3).2).2⟩ := by
          simp [asN, asA, asSt, asO, asR, asE, get3, put3, e, q, qa]
        generalize actOf p2 2 (timeOf p2 + 1) (editD (curN (curN c1 3).2 3).2).1 = A at *
        simp -dsimp [qa, e, wi]
        repeat (first | refine ⟨by omega, ?_⟩ | refine ⟨by simp [capMax]; omega, ?_⟩ | refine ⟨⟨by omega, by omega⟩, ?_⟩)
        exact Back_of (i + 1) [0, 1, 5, 7, 8] [(640000, 640000), (320, 320), (448, 448)] rfl rfl (by simp [eN, eM]) (by omega) (by omega)
    · have hX : SOK (doK out p2 out.length) := (doK_sok k2 out.length)
      have hXO := sok_Ok hX
      have hXO2 := hXO
      simp only [GState.Ok] at hXO2
      have ht := timeOf_bd hX
      have wt : IntKind.i64.wrap (timeOf (doK out p2 out.length) + 1) = timeOf (doK out p2 out.length) + 1 := wrap64 (by omega) (by omega)
      simp -dsimp [e]
      repeat (first | refine ⟨by omega, ?_⟩ | refine ⟨by simp [capMax]; omega, ?_⟩ | refine ⟨⟨by omega, by omega⟩, ?_⟩)
      refine ACallK_of (f32_ok p2 out (sok_Ok k2) ko (by omega)) ?_
      simp -dsimp [e]
      repeat (first | refine ⟨by omega, ?_⟩ | refine ⟨by simp [capMax]; omega, ?_⟩ | refine ⟨⟨by omega, by omega⟩, ?_⟩)
      refine ACallK_of (f99_ok (doK out p2 out.length) (by omega)) ?_
      simp -dsimp [wt, e]
      repeat (first | refine ⟨by omega, ?_⟩ | refine ⟨by simp [capMax]; omega, ?_⟩ | refine ⟨⟨by omega, by omega⟩, ?_⟩)
      refine ACallW_args (by intro us; simp -dsimp; exact ⟨rfl, rfl, rfl⟩) ?_
      refine ACallC_of (fun us => f133_ok (curN (curN c1 3).2 3).2 c3) (by intro us; simp -dsimp; exact ⟨rfl, rfl⟩) ?_
      simp -dsimp [e]
      repeat (first | refine ⟨by omega, ?_⟩ | refine ⟨by simp [capMax]; omega, ?_⟩ | refine ⟨⟨by omega, by omega⟩, ?_⟩)
      refine ACallK_of (f46_ok (doK out p2 out.length) 2 (timeOf (doK out p2 out.length) + 1) (editD (curN (curN c1 3).2 3).2).1 hXO (by omega) (by omega) (by omega)) ?_
      have hAo : (actOf (doK out p2 out.length) 2 (timeOf (doK out p2 out.length) + 1) (editD (curN (curN c1 3).2 3).2).1).1.Ok := actOf_ok hXO (by omega) (by omega)
      by_cases qa : (actOf (doK out p2 out.length) 2 (timeOf (doK out p2 out.length) + 1) (editD (curN (curN c1 3).2 3).2).1).2 = 0
      · have eM : asN ⟨(p0, p1, p2), out, c1⟩ = ⟨(p0, p1, (doAct (doK out p2 out.length) (actOf (doK out p2 out.length) 2 (timeOf (doK out p2 out.length) + 1) (editD (curN (curN c1 3).2 3).2).1).1).1), out ++ [(actOf (doK out p2 out.length) 2 (timeOf (doK out p2 out.length) + 1) (editD (curN (curN c1 3).2 3).2).1).1], (editD (curN (curN c1 3).2 3).2).2⟩ := by
          simp [asN, asA, asSt, asO, asR, asE, get3, put3, e, q, qa]
        generalize actOf (doK out p2 out.length) 2 (timeOf (doK out p2 out.length) + 1) (editD (curN (curN c1 3).2 3).2).1 = A at *
        simp -dsimp [qa, e]
        repeat (first | refine ⟨by omega, ?_⟩ | refine ⟨by simp [capMax]; omega, ?_⟩ | refine ⟨⟨by omega, by omega⟩, ?_⟩)
        refine ACallK_of (f51_ok (doK out p2 out.length) A.1 hXO hAo) ?_
        simp -dsimp [e, wi]
        repeat (first | refine ⟨by omega, ?_⟩ | refine ⟨by simp [capMax]; omega, ?_⟩ | refine ⟨⟨by omega, by omega⟩, ?_⟩)
        exact Back_of (i + 1) [0, 1, 5, 7, 8] [(640000, 640000), (320, 320), (448, 5312)] rfl rfl (by simp [eN, eM]) (by omega) (by omega)
      · have eM : asN ⟨(p0, p1, p2), out, c1⟩ = ⟨(p0, p1, (doK out p2 out.length)), out, (editD (curN (curN c1 3).2 3).2).2⟩ := by
          simp [asN, asA, asSt, asO, asR, asE, get3, put3, e, q, qa]
        generalize actOf (doK out p2 out.length) 2 (timeOf (doK out p2 out.length) + 1) (editD (curN (curN c1 3).2 3).2).1 = A at *
        simp -dsimp [qa, e, wi]
        repeat (first | refine ⟨by omega, ?_⟩ | refine ⟨by simp [capMax]; omega, ?_⟩ | refine ⟨⟨by omega, by omega⟩, ?_⟩)
        exact Back_of (i + 1) [0, 1, 5, 7, 8] [(640000, 640000), (320, 320), (448, 448)] rfl rfl (by simp [eN, eM]) (by omega) (by omega)
end Am
namespace Am
open Go
set_option linter.unusedSimpArgs false
set_option linter.unusedVariables false

/-- A state that knows all that its own did, and nothing that is not there. -/
def Own (r : Int) (out : List GAct) (s : GState) : Prop := ∃ D, Canon D s ∧ (∀ b, b ∈ D → b ∈ out) ∧ ∀ b, b ∈ out → b.dot.rep = r → b ∈ D
def Own3 (out : List GAct) (p : GState × GState × GState) : Prop := Own 0 out p.1 ∧ Own 1 out p.2.1 ∧ Own 2 out p.2.2
theorem own_more {r : Int} {out : List GAct} {s : GState} {a : GAct} (h : Own r out s) (hr : a.dot.rep ≠ r) : Own r (out ++ [a]) s := by
  obtain ⟨D, h1, h2, h3⟩ := h
  refine ⟨D, h1, fun b hb => List.mem_append_left _ (h2 b hb), fun b hb he => ?_⟩
  rcases List.mem_append.1 hb with hb | hb
  · exact h3 b hb he
  · rw [List.mem_singleton.1 hb] at he; exact absurd he hr
theorem own_all {r : Int} {out : List GAct} {s : GState} (h : Own r out s) : Own r out (doK out s out.length) := by
  obtain ⟨D, h1, h2, h3⟩ := h
  obtain ⟨D', c1, c2, c3⟩ := canon_all (l := out) h1 out.length (Nat.le_refl _)
  refine ⟨D', c1, fun b hb => ?_, fun b hb he => c2 b (h3 b hb he)⟩
  rcases c3 b hb with hb | hb
  · exact h2 b hb
  · exact hb
theorem own_len {r : Int} {out : List GAct} {s : GState} {D : List GAct} (h1 : Canon D s) (h2 : ∀ b, b ∈ D → b ∈ out) : D.length ≤ out.length := by
  have := nodup_len (m := out.map (·.dot)) h1.nod (fun d hd => by
    obtain ⟨x, hx, rfl⟩ := List.mem_map.1 hd
    exact List.mem_map.2 ⟨x, h2 x hx, rfl⟩)
  simpa using this
theorem actOf_rep {s : GState} {rep time : Int} {e : GEdit} (h : (actOf s rep time e).2 = 0) : (actOf s rep time e).1.dot.rep = rep := by
  rcases actOf_cases s rep time e with ⟨_, _, _, _, h4⟩ | ⟨h1, _⟩
  · rw [h4]; rfl
  · exact absurd h h1
/-- An act made of a wish, where all that one did is known. -/
theorem own_act {r : Int} {out : List GAct} {s : GState} {e : GEdit} (h : Own r out s) (hl : out.length ≤ 119) (hw : whole out) (hc : (actOf s r (timeOf s + 1) e).2 = 0) :
    whole (out ++ [(actOf s r (timeOf s + 1) e).1]) ∧ Own r (out ++ [(actOf s r (timeOf s + 1) e).1]) (doAct s (actOf s r (timeOf s + 1) e).1).1 := by
  obtain ⟨D, h1, h2, h3⟩ := h
  have hD := own_len (r := r) h1 h2
  have t1 := canon_tallies h1
  have t2 := canon_lives h1
  have t3 := canon_cells h1
  have hd := actOf_done h1.sok hc (by omega) (by omega) (by omega) (by omega)
  have hr := actOf_rep hc
  generalize (actOf s r (timeOf s + 1) e).1 = a at *
  obtain ⟨d1, d2⟩ := done_of hd
  refine ⟨whole_snoc hw h1 d1 h2 (fun b hb e => ?_) hl, ?_⟩
  · have hbD := h3 b hb (by rw [e]; exact hr)
    have hk := (h1.know a.dot).2 ⟨b, hbD, e⟩
    rw [d1.n] at hk
    cases hk
  · obtain ⟨D', c1, c2⟩ := canon_do a h1
    rcases c2 with ⟨rfl, _⟩ | ⟨_, c2⟩
    · refine ⟨_, c1, fun b hb => ?_, fun b hb he => ?_⟩
      · rcases List.mem_cons.1 hb with rfl | hb
        · exact List.mem_append_right _ (by simp)
        · exact List.mem_append_left _ (h2 b hb)
      · rcases List.mem_append.1 hb with hb | hb
        · exact List.mem_cons_of_mem _ (h3 b hb he)
        · rw [List.mem_singleton.1 hb]; simp
    · exact absurd hd c2
theorem own3_get {out : List GAct} {p : GState × GState × GState} (h : Own3 out p) {r : Int} (hr : r = 0 ∨ r = 1 ∨ r = 2) : Own r out (get3 r p) := by
  obtain ⟨h0, h1, h2⟩ := h
  rcases hr with rfl | rfl | rfl <;> simpa [get3]
theorem own3_put {out : List GAct} {p : GState × GState × GState} (h : Own3 out p) {r : Int} (hr : r = 0 ∨ r = 1 ∨ r = 2) {x : GState} (hx : Own r out x) : Own3 out (put3 r p x) := by
  obtain ⟨h0, h1, h2⟩ := h
  rcases hr with rfl | rfl | rfl <;> simp [put3, Own3, *]
theorem own3_snoc {out : List GAct} {p : GState × GState × GState} (h : Own3 out p) {r : Int} (hr : r = 0 ∨ r = 1 ∨ r = 2) {a : GAct} (ha : a.dot.rep = r) {x : GState} (hx : Own r (out ++ [a]) x) : Own3 (out ++ [a]) (put3 r p x) := by
  obtain ⟨h0, h1, h2⟩ := h
  rcases hr with rfl | rfl | rfl
  · have q1 := own_more h1 (by omega : a.dot.rep ≠ 1)
    have q2 := own_more h2 (by omega : a.dot.rep ≠ 2)
    simp [put3, Own3, *]
  · have q1 := own_more h0 (by omega : a.dot.rep ≠ 0)
    have q2 := own_more h2 (by omega : a.dot.rep ≠ 2)
    simp [put3, Own3, *]
  · have q1 := own_more h0 (by omega : a.dot.rep ≠ 0)
    have q2 := own_more h1 (by omega : a.dot.rep ≠ 1)
    simp [put3, Own3, *]
theorem own_new (r : Int) : Own r [] stateNew := ⟨[], canon_new, by simp, by simp⟩
theorem asN_whole {a : AS} (hw : whole a.out) (h : Own3 a.out a.st) (hl : a.out.length ≤ 119) : whole (asN a).out ∧ Own3 (asN a).out (asN a).st := by
  have hr : (asR a).1 = 0 ∨ (asR a).1 = 1 ∨ (asR a).1 = 2 := by
    have := curN_bd a.c (n := 3) (by decide)
    have e : (asR a).1 = (curN a.c 3).1 := rfl
    omega
  have hS : Own3 a.out (asSt a) := by
    unfold asSt
    split
    · exact own3_put h hr (own_all (own3_get h hr))
    · exact h
  unfold asN
  split
  · rename_i hc
    obtain ⟨w1, w2⟩ := own_act (own3_get hS hr) hl hw hc
    exact ⟨w1, own3_snoc hS hr (actOf_rep hc) w2⟩
  · exact ⟨hw, hS⟩
theorem asN_len (a : AS) : (asN a).out.length ≤ a.out.length + 1 := by
  unfold asN
  split
  · simp
  · simp
theorem actsK_len (c : GCur) : ∀ i, (actsK c i).out.length ≤ i
  | 0 => by simp [actsK]
  | i + 1 => by
    have h1 := actsK_len c i
    have h2 := asN_len (actsK c i)
    rw [actsK]; omega
theorem actsK_whole (c : GCur) : ∀ i : Nat, i ≤ 119 → whole (actsK c i).out ∧ Own3 (actsK c i).out (actsK c i).st
  | 0, _ => ⟨fun i hi => by simp [actsK] at hi, own_new 0, own_new 1, own_new 2⟩
  | i + 1, hi => by
    obtain ⟨h1, h2⟩ := actsK_whole c i (by omega)
    have hl := actsK_len c i
    exact asN_whole h1 h2 (by omega)

/-- Whole acts settle to what they come to in their order. -/
theorem settled_is {acts l : List GAct} (hw : whole acts) (hn : acts.length ≤ 119) (hm : ∀ a, a ∈ l ↔ a ∈ acts) : settled l = (doK acts stateNew acts.length, (acts.length : Int)) := by
  obtain ⟨n1, n2, n3⟩ := endK_is l
  have h0 : endK l ≠ 0 := fun e => by rw [e] at n2; cases n2
  obtain ⟨k, hk⟩ : ∃ k, endK l = k + 1 := ⟨endK l - 1, by omega⟩
  unfold settled
  rw [hk] at n2 ⊢
  obtain ⟨e1, e2⟩ := settled_whole hw hn hm n2
  rw [e1, e2]; rfl
theorem whole_codes {acts : List GAct} (hw : whole acts) : ∀ i : Nat, i ≤ acts.length → ∀ x, x ∈ cdK acts stateNew i → x = 0
  | 0, _, x, h => by cases h
  | i + 1, hi, x, h => by
    rw [cdK] at h
    rcases List.mem_append.1 h with h | h
    · exact whole_codes hw i (by omega) x h
    · rw [List.mem_singleton.1 h]; exact hw i (by omega)
end Am
namespace Am
open Go
set_option linter.unusedSimpArgs false
set_option linter.unusedVariables false

theorem canon_eq {D D' : List GAct} {s s' : GState} (h : Canon D s) (h' : Canon D' s') (hm : ∀ x, x ∈ D ↔ x ∈ D') : s = s' :=
  canon_uniq h h' (perm_of h.nod h'.nod hm)
/-- Acts with the same dot are the same. -/
def Fits (D1 D2 : List GAct) : Prop := ∀ a b, a ∈ D1 → b ∈ D2 → a.dot = b.dot → a = b
theorem fits_union {D1 D2 : List GAct} (h1 : (D1.map (·.dot)).Nodup) (h2 : (D2.map (·.dot)).Nodup) (hf : Fits D1 D2) : ∃ D : List GAct, (∀ a, a ∈ D ↔ a ∈ D1 ∨ a ∈ D2) ∧ (D.map (·.dot)).Nodup ∧ D.length ≤ D1.length + D2.length := by
  classical
  refine ⟨D1 ++ D2.filter (fun x => decide (¬ x ∈ D1)), fun a => ?_, ?_, ?_⟩
  · rw [List.mem_append, List.mem_filter, decide_eq_true_eq]
    constructor
    · rintro (h | ⟨h, _⟩)
      · exact .inl h
      · exact .inr h
    · rintro (h | h)
      · exact .inl h
      · by_cases q : a ∈ D1
        · exact .inl q
        · exact .inr ⟨h, q⟩
  · rw [List.map_append, List.nodup_append]
    refine ⟨h1, h2.sublist (List.filter_sublist.map _), fun d hd e he heq => ?_⟩
    obtain ⟨a, ha, rfl⟩ := List.mem_map.1 hd
    obtain ⟨b, hb, rfl⟩ := List.mem_map.1 he
    rw [List.mem_filter, decide_eq_true_eq] at hb
    rw [← hf a b ha hb.1 heq] at hb
    exact hb.2 ha
  · rw [List.length_append]
    have := List.length_filter_le (fun x => decide (¬ x ∈ D1)) D2
    omega
theorem fits_sub {D0 D : List GAct} (h : (D.map (·.dot)).Nodup) (hs : ∀ a, a ∈ D0 → a ∈ D) : Fits D0 D := fun a b ha hb e => nodup_inj h (hs a ha) hb e
theorem fits_symm {D1 D2 : List GAct} (h : Fits D1 D2) : Fits D2 D1 := fun a b ha hb e => (h b a hb ha e.symm).symm
/-- Put together: what all of them come to. -/
theorem merge_all {D1 D2 : List GAct} {s1 s2 : GState} (h1 : Canon D1 s1) (h2 : Canon D2 s2) (hf : Fits D1 D2) (hl : D1.length + D2.length ≤ 120) : ∃ D, (∀ a, a ∈ D ↔ a ∈ D1 ∨ a ∈ D2) ∧ D.length ≤ D1.length + D2.length ∧ Canon D (mergeState s1 s2) ∧ mergeState s1 s2 = mergeRaw s1 s2 := by
  obtain ⟨D, q1, q2, q3⟩ := fits_union h1.nod h2.nod hf
  obtain ⟨c1, c2⟩ := canon_merge h1 h2 q1 q2 (by omega)
  exact ⟨D, q1, q3, c2, c1⟩
theorem merge_sub {D1 D2 : List GAct} {s1 s2 : GState} (h1 : Canon D1 s1) (h2 : Canon D2 s2) (hs : ∀ a, a ∈ D1 → a ∈ D2) (hl : D1.length + D2.length ≤ 120) : mergeState s1 s2 = s2 := by
  obtain ⟨D, q1, q2, q3, _⟩ := merge_all h1 h2 (fits_sub h2.nod hs) hl
  refine canon_eq q3 h2 fun x => ?_
  rw [q1]
  constructor
  · rintro (h | h)
    · exact hs x h
    · exact h
  · exact .inr
theorem merge_sup {D1 D2 : List GAct} {s1 s2 : GState} (h1 : Canon D1 s1) (h2 : Canon D2 s2) (hs : ∀ a, a ∈ D2 → a ∈ D1) (hl : D1.length + D2.length ≤ 120) : mergeState s1 s2 = s1 := by
  obtain ⟨D, q1, q2, q3, _⟩ := merge_all h1 h2 (fits_symm (fits_sub h1.nod hs)) hl
  refine canon_eq q3 h1 fun x => ?_
  rw [q1]
  constructor
  · rintro (h | h)
    · exact h
    · exact hs x h
  · exact .inl
theorem merge_comm {D1 D2 : List GAct} {s1 s2 : GState} (h1 : Canon D1 s1) (h2 : Canon D2 s2) (hf : Fits D1 D2) (hl : D1.length + D2.length ≤ 120) : mergeState s1 s2 = mergeState s2 s1 := by
  obtain ⟨D, q1, _, q3, _⟩ := merge_all h1 h2 hf hl
  obtain ⟨D', r1, _, r3, _⟩ := merge_all h2 h1 (fits_symm hf) (by omega)
  refine canon_eq q3 r3 fun x => ?_
  rw [q1, r1]
  exact Or.comm
theorem behind_sub {D1 D2 : List GAct} {s1 s2 : GState} (h1 : Canon D1 s1) (h2 : Canon D2 s2) (hs : ∀ a, a ∈ D1 → a ∈ D2) (hl : D1.length + D2.length ≤ 120) : behind s1 s2 = true := by
  unfold behind
  rw [of_sok h1.sok, of_sok h2.sok, merge_sub h1 h2 hs hl]
  simp
/-- Two states that grew from one, each by acts of its own. -/
structure Two (p a b : GState) (D0 D1 D2 : List GAct) : Prop where
  c0 : Canon D0 p
  c1 : Canon D1 a
  c2 : Canon D2 b
  s1 : ∀ x, x ∈ D0 → x ∈ D1
  s2 : ∀ x, x ∈ D0 → x ∈ D2
  r1 : ∀ x, x ∈ D1 → x ∈ D0 ∨ x.dot.rep = 0
  r2 : ∀ x, x ∈ D2 → x ∈ D0 ∨ x.dot.rep = 1
  l0 : D0.length ≤ 20
  l1 : D1.length ≤ 30
  l2 : D2.length ≤ 30
theorem Two.fits {p a b : GState} {D0 D1 D2 : List GAct} (h : Two p a b D0 D1 D2) : Fits D1 D2 := fun x y hx hy e => by
  rcases h.r1 x hx with q | q
  · exact nodup_inj h.c2.nod (h.s2 x q) hy e
  · rcases h.r2 y hy with q' | q'
    · exact nodup_inj h.c1.nod hx (h.s1 y q') e
    · rw [e] at q; omega
theorem two_merges {p a b : GState} {D0 D1 D2 : List GAct} (h : Two p a b D0 D1 D2) :
    stateOk (mergeState a b) = true ∧ mergeState b a = mergeState a b ∧ mergeState (mergeState a b) a = mergeState a b ∧ mergeState a a = a ∧ behind a (mergeState a b) = true ∧ behind b (mergeState a b) = true ∧ behind p a = true ∧ mergeState p a = a ∧ (mergeState a b).know = knowMax a.know b.know := by
  have l0 := h.l0
  have l1 := h.l1
  have l2 := h.l2
  obtain ⟨D, q1, q2, q3, q4⟩ := merge_all h.c1 h.c2 h.fits (by omega)
  refine ⟨of_sok q3.sok, (merge_comm h.c1 h.c2 h.fits (by omega)).symm, merge_sup q3 h.c1 (fun x hx => (q1 x).2 (.inl hx)) (by omega), merge_sub h.c1 h.c1 (fun _ hx => hx) (by omega), behind_sub h.c1 q3 (fun x hx => (q1 x).2 (.inl hx)) (by omega), behind_sub h.c2 q3 (fun x hx => (q1 x).2 (.inr hx)) (by omega), behind_sub h.c0 h.c1 h.s1 (by omega), merge_sub h.c0 h.c1 h.s1 (by omega), by rw [q4]; rfl⟩
theorem know_same {D1 D2 : List GAct} {s1 s2 : GState} (h1 : Canon D1 s1) (h2 : Canon D2 s2) (hf : Fits D1 D2) (hk : knowIn s1.know s2.know = true) : ∀ x, x ∈ D1 → x ∈ D2 := fun x hx => by
  have := knows_in hk ((h1.know _).2 ⟨x, hx, rfl⟩)
  obtain ⟨y, hy, e⟩ := (h2.know _).1 this
  rw [hf x y hx hy e.symm]; exact hy
theorem know_sub {D1 D2 : List GAct} {s1 s2 : GState} (h1 : Canon D1 s1) (h2 : Canon D2 s2) (hs : ∀ x, x ∈ D1 → x ∈ D2) : knowIn s1.know s2.know = true := by
  have hk := h1.sok.k
  have := know_le h1.sok.k h2.sok.k (fun d hd => by
    obtain ⟨a, ha, e⟩ := (h1.know d).1 hd
    exact (h2.know d).2 ⟨a, hs a ha, e⟩)
  refine knowIn_of h1.sok.k h2.sok.k fun j hj => this j ?_
  simp only [knowOk, Bool.and_eq_true, decide_eq_true_eq] at hk
  omega
end Am
namespace Am
open Go
set_option linter.unusedSimpArgs false
set_option linter.unusedVariables false

theorem canon_grS {D : List GAct} {s : GState} (h : Canon D s) (c : GCur) : ∃ D', Canon D' (grS s c) ∧ (∀ a, a ∈ D → a ∈ D') ∧ D'.length ≤ D.length + 1 := by
  unfold grS
  split
  · rename_i hc
    obtain ⟨D', c1, c2⟩ := canon_do (grAct s c).1 h
    rcases c2 with ⟨rfl, _⟩ | ⟨rfl, _⟩
    · exact ⟨_, c1, fun a ha => List.mem_cons_of_mem _ ha, by simp⟩
    · exact ⟨_, c1, fun a ha => ha, by omega⟩
  · exact ⟨D, h, fun a ha => ha, by omega⟩
theorem canon_grown (c : GCur) {D : List GAct} {s : GState} (h : Canon D s) : ∀ i : Nat, ∃ D', Canon D' (grownK c s i).1 ∧ (∀ a, a ∈ D → a ∈ D') ∧ D'.length ≤ D.length + i
  | 0 => ⟨D, h, fun a ha => ha, by omega⟩
  | i + 1 => by
    obtain ⟨D1, c1, s1, l1⟩ := canon_grown c h i
    obtain ⟨D2, c2, s2, l2⟩ := canon_grS c1 (grownK c s i).2
    exact ⟨D2, c2, fun a ha => s2 a (s1 a ha), by omega⟩
theorem canon_stateD (c : GCur) : ∃ D, Canon D (stateD c).1 ∧ D.length ≤ 10 := by
  have hb := curN_bd c (n := 9) (by decide)
  obtain ⟨D, h1, _, h3⟩ := canon_grown (curN c 9).2 canon_new (2 + (curN c 9).1).toNat
  exact ⟨D, h1, by simp only [List.length_nil] at h3; omega⟩
/-- A step of one's own. -/
def stepD (rep : Int) (s : GState) (c : GCur) : GState × GCur := (if (actOf s rep (timeOf s + 1) (editD c).1).2 = 0 then (doAct s (actOf s rep (timeOf s + 1) (editD c).1).1).1 else s, (editD c).2)
def runK (rep : Int) : Nat → Int → GState → GCur → GState × GCur
  | 0, _, s, c => (s, c)
  | f + 1, i, s, c => if i < (curN c 5).1 then runK rep f (i + 1) (stepD rep s (curN c 5).2).1 (stepD rep s (curN c 5).2).2 else (s, (curN c 5).2)
theorem stepD_ok {c : GCur} (h : c.Ok) (rep : Int) (s : GState) : (stepD rep s c).2.Ok := editD_ok h
theorem stepD_sok {s : GState} (h : SOK s) (rep : Int) (c : GCur) : SOK (stepD rep s c).1 := by
  simp only [stepD]
  split
  · exact sok_of (doAct_sok (of_sok h))
  · exact h
theorem runK_ok (rep : Int) : ∀ (f : Nat) (i : Int) {s : GState} {c : GCur}, SOK s → c.Ok → SOK (runK rep f i s c).1 ∧ (runK rep f i s c).2.Ok
  | 0, _, _, _, hs, hc => ⟨hs, hc⟩
  | f + 1, i, s, c, hs, hc => by
    rw [runK]
    split
    · exact runK_ok rep f (i + 1) (stepD_sok hs rep _) (stepD_ok (curN_ok hc _) rep s)
    · exact ⟨hs, curN_ok hc _⟩
theorem canon_step {D : List GAct} {s : GState} (h : Canon D s) (rep : Int) (c : GCur) : ∃ D', Canon D' (stepD rep s c).1 ∧ (∀ a, a ∈ D → a ∈ D') ∧ (∀ a, a ∈ D' → a ∈ D ∨ a.dot.rep = rep) ∧ D'.length ≤ D.length + 1 := by
  simp only [stepD]
  split
  · rename_i hc
    have hr := actOf_rep hc
    obtain ⟨D', c1, c2⟩ := canon_do (actOf s rep (timeOf s + 1) (editD c).1).1 h
    rcases c2 with ⟨rfl, _⟩ | ⟨rfl, _⟩
    · refine ⟨_, c1, fun a ha => List.mem_cons_of_mem _ ha, fun a ha => ?_, by simp⟩
      rcases List.mem_cons.1 ha with rfl | ha
      · exact .inr hr
      · exact .inl ha
    · exact ⟨_, c1, fun a ha => ha, fun a ha => .inl ha, by omega⟩
  · exact ⟨D, h, fun a ha => ha, fun a ha => .inl ha, by omega⟩
theorem canon_run (rep : Int) : ∀ (f : Nat) (i : Int) {D : List GAct} {s : GState} {c : GCur}, Canon D s → ∃ D', Canon D' (runK rep f i s c).1 ∧ (∀ a, a ∈ D → a ∈ D') ∧ (∀ a, a ∈ D' → a ∈ D ∨ a.dot.rep = rep) ∧ D'.length ≤ D.length + f
  | 0, _, D, _, _, h => ⟨D, h, fun a ha => ha, fun a ha => .inl ha, by omega⟩
  | f + 1, i, D, s, c, h => by
    rw [runK]
    split
    · obtain ⟨D1, c1, s1, r1, l1⟩ := canon_step h rep (curN c 5).2
      obtain ⟨D2, c2, s2, r2, l2⟩ := canon_run rep f (i + 1) (c := (stepD rep s (curN c 5).2).2) c1
      refine ⟨D2, c2, fun a ha => s2 a (s1 a ha), fun a ha => ?_, by omega⟩
      rcases r2 a ha with q | q
      · exact r1 a q
      · exact .inr q
    · exact ⟨D, h, fun a ha => ha, fun a ha => .inl ha, by omega⟩
def twoP (c : GCur) : GState × GCur := grownK (curN c 5).2 stateNew (1 + (curN c 5).1).toNat
def twoA (c : GCur) : GState × GCur := runK 0 5 0 (twoP c).1 (twoP c).2
def twoB (c : GCur) : GState × GCur := runK 1 5 0 (twoP c).1 (twoA c).2
theorem twoP_sok (c : GCur) : SOK (twoP c).1 := grownK_sok stateNew_sok _ _
theorem twoP_ok {c : GCur} (h : c.Ok) : (twoP c).2.Ok := grownK_cur (curN_ok h _) _ _
theorem twoA_sok {c : GCur} (h : c.Ok) : SOK (twoA c).1 := (runK_ok 0 5 0 (twoP_sok c) (twoP_ok h)).1
theorem twoA_ok {c : GCur} (h : c.Ok) : (twoA c).2.Ok := (runK_ok 0 5 0 (twoP_sok c) (twoP_ok h)).2
theorem twoB_sok {c : GCur} (h : c.Ok) : SOK (twoB c).1 := (runK_ok 1 5 0 (twoP_sok c) (twoA_ok h)).1
theorem twoB_ok {c : GCur} (h : c.Ok) : (twoB c).2.Ok := (runK_ok 1 5 0 (twoP_sok c) (twoA_ok h)).2
theorem two_is (c : GCur) : ∃ D0 D1 D2, Two (twoP c).1 (twoA c).1 (twoB c).1 D0 D1 D2 := by
  have hb := curN_bd c (n := 5) (by decide)
  obtain ⟨D0, c0, _, l0⟩ := canon_grown (curN c 5).2 canon_new (1 + (curN c 5).1).toNat
  simp only [List.length_nil] at l0
  obtain ⟨D1, c1, s1, r1, l1⟩ := canon_run 0 5 0 (c := (twoP c).2) (s := (twoP c).1) c0
  obtain ⟨D2, c2, s2, r2, l2⟩ := canon_run 1 5 0 (c := (twoA c).2) (s := (twoP c).1) c0
  exact ⟨D0, D1, D2, c0, c1, c2, s1, s2, r1, r2, by omega, by omega, by omega⟩
end Am
namespace Am
open Go Go.Proofs
open Cel (cells)
set_option maxRecDepth 100000
set_option linter.unusedSimpArgs false
set_option linter.unusedVariables false

theorem acts_frz (c : GCur) (hc : c.Ok) (n : Nat) (hn : n ≤ 1000) : FnW Tryz.prog 91 [.ptr [.im c.b.length (flat c.b), .int .i64 c.i, .int .i64 c.h], .v (.int .i64 n)] (.v (.ow 43 10 (actsK c n).out.length (flat (actsK c n).out))) [.ptr [.im ((actsK c n).c).b.length (flat ((actsK c n).c).b), .int .i64 ((actsK c n).c).i, .int .i64 ((actsK c n).c).h], .any] := by
  have h := FnW.frz_res (f91_ok c hc n hn)
  rw [flatO_frz] at h
  exact h
/-- Shuffled: so many steps. -/
def shufK (l : List GAct) (c : GCur) : Nat → List GAct × GCur
  | 0 => (l, c)
  | j + 1 => (((shufK l c j).1.set (l.length - 1 - j) (nth (shufK l c j).1 (curN (shufK l c j).2 ((l.length - 1 - j : Nat) + 1)).1.toNat)).set (curN (shufK l c j).2 ((l.length - 1 - j : Nat) + 1)).1.toNat (nth (shufK l c j).1 (l.length - 1 - j)), (curN (shufK l c j).2 ((l.length - 1 - j : Nat) + 1)).2)
theorem shufK_len (l : List GAct) (c : GCur) : ∀ j, (shufK l c j).1.length = l.length
  | 0 => rfl
  | j + 1 => by simp [shufK, shufK_len l c j]
theorem shufK_ok {l : List GAct} {c : GCur} (h : c.Ok) : ∀ j, (shufK l c j).2.Ok
  | 0 => h
  | j + 1 => curN_ok (shufK_ok h j) _
theorem shufK_mem {l : List GAct} {c : GCur} : ∀ j : Nat, j ≤ l.length - 1 → ∀ x, x ∈ (shufK l c j).1 → x ∈ l
  | 0, _, x, h => h
  | j + 1, hj, x, h => by
    have ih := shufK_mem (l := l) (c := c) j (by omega)
    have hl := shufK_len l c j
    have hb := curN_bd (shufK l c j).2 (n := ((l.length - 1 - j : Nat) : Int) + 1) (by omega)
    rw [shufK] at h
    rcases set_mem' h with rfl | h
    · exact ih _ (nth_mem (by omega))
    rcases set_mem' h with rfl | h
    · exact ih _ (nth_mem (by omega))
    · exact ih x h
def drawSettled (b : List UInt8) : List GAct := (shufK (actsK (curNew b) 8).out (actsK (curNew b) 8).c ((actsK (curNew b) 8).out.length - 1)).1

@[simp] def h17 : Hts := { merge := fun _ => false, mergeF := fun _ => false, lend := fun f => if f = 91 then [.box []] else [] }
theorem f17_ok (b : List UInt8) (hb : b.length ≤ 1048576) : FnR Tryz.prog 17 [.v (.im b.length (flat b))] (.v (.ow 43 10 ((actsK (curNew b) 9).out).length (flatO ((actsK (curNew b) 9).out)))) := by
  refine FnW.of_AW TryzT_ok 0 (fn := Tryz.f17) (by kernel_rfl) rfl (by kernel_rfl) rfl rfl rfl ?_; refine AW_of h17 TryzT_ok (by kernel_rfl) ?_
  simp -dsimp
  refine ACallK_of (f74_ok b hb) ?_
  simp -dsimp
  refine ACallW_args (by intro us; simp -dsimp; exact ⟨rfl, rfl, rfl⟩) ?_
  refine ACallC_of (fun us => f91_ok (curNew b) (curNew_ok hb) 9 (by omega)) (by intro us; simp -dsimp; exact ⟨rfl, rfl⟩) ?_
  simp -dsimp

@[simp] def h18 : Hts := { merge := fun _ => false, mergeF := fun _ => false, lend := fun f => if f = 93 || f = 92 then [.box []] else [] }
set_option maxHeartbeats 1000000 in
theorem f18_ok (b : List UInt8) (hb : b.length ≤ 1048576) : FnR Tryz.prog 18 [.v (.im b.length (flat b))] (.v (.ow 3 1 ((drawsK (curB (curNew b)).2 10000 12).1).length (flat ((drawsK (curB (curNew b)).2 10000 12).1)))) := by
  refine FnW.of_AW TryzT_ok 0 (fn := Tryz.f18) (by kernel_rfl) rfl (by kernel_rfl) rfl rfl rfl ?_; refine AW_of h18 TryzT_ok (by kernel_rfl) ?_
  simp -dsimp
  refine ACallK_of (f74_ok b hb) ?_
  simp -dsimp
  refine ACallW_args (by intro us; simp -dsimp; exact ⟨rfl, rfl, rfl⟩) ?_
  refine ACallC_of (fun us => f92_ok (curNew b) (curNew_ok hb)) (by intro us; simp -dsimp; exact ⟨rfl, rfl⟩) ?_
  have hc : (curB (curNew b)).2.Ok := curB_ok (curNew_ok hb)
  generalize (curB (curNew b)).2 = c at *
  simp -dsimp
  refine AWh_loop (fun i : Nat => i ≤ 12) (fun i => mkE [(3, .box 448 0), (4, .arr 256), (5, .c (.int .i64 i))] [(448, .box [.c (.im ((drawsK c 10000 i).2).b.length (flat ((drawsK c 10000 i).2).b)), .c (.int .i64 ((drawsK c 10000 i).2).i), .c (.int .i64 ((drawsK c 10000 i).2).h)]), (256, .arr 0 3 1 (drawsK c 10000 i).1.length (flat (drawsK c 10000 i).1))]) (fun i => 12 - i) 0 (Wk_to [3, 4, 5] [(448, 448), (256, 640)] rfl rfl (by simp [drawsK])) (by simp) ?_
  rintro i hi
  refine AW_of h18 TryzT_ok (by kernel_rfl) ?_
  have wi : IntKind.i64.wrap ((i : Int) + 1) = i + 1 := wrap64 (by omega) (by omega)
  have hl := drawsK_len c 10000 i
  rcases Nat.lt_or_ge i 12 with q1 | q1
  · have q1' : (i : Int) < 12 := by omega
    simp -dsimp [q1']
    refine ACallW_args (by intro us; simp -dsimp; exact ⟨rfl, rfl, rfl⟩) ?_
    refine ACallC_of (fun us => f93_ok (drawsK c 10000 i).2 (drawsK_ok hc 10000 i) 10000) (by intro us; simp -dsimp; exact ⟨rfl, rfl⟩) ?_
    simp -dsimp [wi]
    repeat (first | refine ⟨by omega, ?_⟩ | refine ⟨by simp [capMax]; omega, ?_⟩ | refine ⟨⟨by omega, by omega⟩, ?_⟩)
    exact Back_of (i + 1) [3, 4, 5] [(448, 448), (256, 1216)] rfl rfl (by simp [drawsK]) (by omega) (by omega)
  · obtain rfl : i = 12 := by omega
    simp -dsimp

def daO (b : List UInt8) : Int × GCur := curN (actsK (curNew b) 6).c 3
def daL (b : List UInt8) : List GAct := if ((daO b).1 == 0) = true then (actsK (curNew b) 6).out ++ [(anyA (daO b).2).1] else (actsK (curNew b) 6).out
def daS (b : List UInt8) : GState := if ((daO b).1 == 0) = true then (anyD (anyA (daO b).2).2).1 else (anyD (daO b).2).1
theorem daS_Ok (b : List UInt8) : (daS b).Ok := by
  unfold daS
  split <;> exact anyD_Ok _
theorem daL_Ok {b : List UInt8} (hb : b.length ≤ 1048576) : (∀ a, a ∈ daL b → a.Ok) ∧ (daL b).length ≤ 7 := by
  have hA := actsK_ok (curNew_ok hb) 6
  have hn := hA.n
  unfold daL
  split
  · refine ⟨fun a ha => ?_, by simp only [List.length_append, List.length_singleton]; omega⟩
    rcases List.mem_append.1 ha with ha | ha
    · exact hA.o a ha
    · rw [List.mem_singleton.1 ha]; exact anyA_Ok _
  · exact ⟨hA.o, by omega⟩

end Am
