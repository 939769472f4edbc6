/- Lists put together, in order: nothing of the program. No condition. -/
import Derived.Test.YtpgnllakcjajjaaGreatT
import Derived.Test.YtpgnllakcjajjaaGreatD
import Derived.Test.YtpgnllakcjajjaaGreatE50
import Derived.Test.YtpgnllakcjajjaaGreatAm31
namespace Am
open Go Go.Proofs
set_option linter.unusedSimpArgs false
set_option linter.unusedVariables false
set_option linter.unusedSectionVars false

section
variable {α : Type} [Cel α]
/-- what is told of a list, behind what was -/
def filK (p : α → Bool) (base l : List α) : Nat → List α
  | 0 => base
  | n + 1 => if p (nth l n) = true then filK p base l n ++ [nth l n] else filK p base l n
/-- the same, each put in its place -/
def insN (lt : α → α → Bool) (p : α → Bool) (base l : List α) : Nat → List α
  | 0 => base
  | n + 1 => if p (nth l n) = true then insF lt (nth l n) (insN lt p base l n) else insN lt p base l n
theorem filK_len (p : α → Bool) (base l : List α) : ∀ n, (filK p base l n).length ≤ base.length + n
  | 0 => by simp [filK]
  | n + 1 => by
    have := filK_len p base l n
    simp only [filK]; split
    · simp; omega
    · omega
theorem filK_app (p : α → Bool) (base l : List α) : ∀ n, filK p base l n = base ++ filK p [] l n
  | 0 => by simp [filK]
  | n + 1 => by
    simp only [filK, filK_app p base l n]; split
    · simp
    · rfl
theorem filK_filter (p : α → Bool) (l : List α) : ∀ n, n ≤ l.length → filK p [] l n = (l.take n).filter p
  | 0, _ => by simp [filK]
  | n + 1, h => by
    simp only [filK, filK_filter p l n (by omega), take_snoc (show n < l.length by omega), List.filter_append]
    split
    · rename_i hp; simp [hp]
    · rename_i hp; simp [hp]
theorem filK_mem {p : α → Bool} {base l : List α} {x : α} : ∀ {n : Nat}, n ≤ l.length → (x ∈ filK p base l n ↔ x ∈ base ∨ ∃ i, i < n ∧ nth l i = x ∧ p x = true)
  | 0, _ => by simp [filK]
  | n + 1, h => by
    have ih := filK_mem (p := p) (base := base) (l := l) (x := x) (n := n) (by omega)
    simp only [filK]
    by_cases hp : p (nth l n) = true
    · rw [if_pos hp, List.mem_append, ih, List.mem_singleton]
      constructor
      · rintro ((h1 | ⟨i, h2, h3, h4⟩) | rfl)
        · exact .inl h1
        · exact .inr ⟨i, by omega, h3, h4⟩
        · exact .inr ⟨n, by omega, rfl, hp⟩
      · rintro (h1 | ⟨i, h2, h3, h4⟩)
        · exact .inl (.inl h1)
        · by_cases e : i = n
          · subst e; exact .inr h3.symm
          · exact .inl (.inr ⟨i, by omega, h3, h4⟩)
    · rw [if_neg hp, ih]
      constructor
      · rintro (h1 | ⟨i, h2, h3, h4⟩)
        · exact .inl h1
        · exact .inr ⟨i, by omega, h3, h4⟩
      · rintro (h1 | ⟨i, h2, h3, h4⟩)
        · exact .inl h1
        · by_cases e : i = n
          · subst e; exact absurd (h3 ▸ h4) hp
          · exact .inr ⟨i, by omega, h3, h4⟩
theorem insN_perm (lt : α → α → Bool) (p : α → Bool) (base l : List α) : ∀ n, (insN lt p base l n).Perm (filK p base l n)
  | 0 => List.Perm.refl _
  | n + 1 => by
    simp only [insN, filK]
    split
    · exact (insF_perm _ _).trans (((insN_perm lt p base l n).cons _).trans (List.perm_append_comm (l₁ := [nth l n])))
    · exact insN_perm lt p base l n
theorem insN_sorted {lt : α → α → Bool} (hL : Lt lt) {p : α → Bool} {base l : List α} (hb : base.Pairwise (fun a b => lt a b = true))
    (hx : ∀ i, i < l.length → p (nth l i) = true → ∀ y, (y ∈ base ∨ ∃ j, j < i ∧ nth l j = y ∧ p y = true) → lt (nth l i) y = false → lt y (nth l i) = true) :
    ∀ n, n ≤ l.length → (insN lt p base l n).Pairwise (fun a b => lt a b = true)
  | 0, _ => hb
  | n + 1, h => by
    have ih := insN_sorted hL hb hx n (by omega)
    simp only [insN]
    split
    · rename_i hp
      refine insF_sorted hL ih fun y hy => hx n (by omega) hp y ?_
      exact (filK_mem (by omega)).1 ((insN_perm lt p base l n).mem_iff.1 hy)
    · exact ih
theorem insN_len (lt : α → α → Bool) (p : α → Bool) (base l : List α) (n : Nat) : (insN lt p base l n).length ≤ base.length + n := by
  rw [(insN_perm lt p base l n).length_eq]; exact filK_len p base l n
theorem pw_nth {l : List α} {r : α → α → Prop} (h : l.Pairwise r) {i j : Nat} (hij : i < j) (hj : j < l.length) : r (nth l i) (nth l j) := by
  rw [nth_eq (show i < l.length by omega), nth_eq hj]
  exact List.pairwise_iff_getElem.1 h i j (by omega) hj hij
theorem pw_of_nth {l : List α} {r : α → α → Prop} (h : ∀ i j, i < j → j < l.length → r (nth l i) (nth l j)) : l.Pairwise r := by
  rw [List.pairwise_iff_getElem]
  intro i j hi hj hij
  have := h i j hij hj
  rwa [nth_eq hi, nth_eq hj] at this
theorem mem_nth {l : List α} {x : α} (h : x ∈ l) : ∃ i, i < l.length ∧ nth l i = x := by
  obtain ⟨i, hi, e⟩ := List.getElem_of_mem h
  exact ⟨i, hi, by rw [nth_eq hi, e]⟩
end

/-- the lives' order, and the cells' -/
def liveLt (x y : GLive) : Bool := before x.dot y.dot
def cellLt (x y : GCell) : Bool := before x.dot y.dot
theorem liveLt_Lt : Lt liveLt := ⟨fun a b => before_Lt.asym a.dot b.dot, fun a b c => before_Lt.trans a.dot b.dot c.dot⟩
theorem cellLt_Lt : Lt cellLt := ⟨fun a b => before_Lt.asym a.dot b.dot, fun a b c => before_Lt.trans a.dot b.dot c.dot⟩
theorem before_ne {a b : GDot} (h : a ≠ b) (h2 : before a b = false) : before b a = true := by
  cases e : before b a
  · exact absurd (before_tri h2 e) h
  · rfl

/-- a tally more -/
def talIs (o : ByteArray) (r : Int) (t : GTally) : Bool := decide (t.obj = o) && (t.rep == r)
def addT (l : List GTally) (o : ByteArray) (r v : Int) : List GTally :=
  if 0 ≤ idx (talIs o r) l then l.set (idx (talIs o r) l).toNat ⟨o, r, (IntKind.i64.wrap ((nth l (idx (talIs o r) l).toNat).sum + v)).tmod 1000000⟩ else insF tallyLt ⟨o, r, v⟩ l

/-- a cell's Gone turned on -/
def goneAt (l : List GCell) (d : GDot) (g : Bool) : List GCell := l.map fun c => if c.dot = d then { c with gone := c.gone || g } else c
def hasDot (l : List GCell) (d : GDot) : Bool := l.any fun c => decide (c.dot = d)
def cellsI (a b : List GCell) : Nat → List GCell
  | 0 => a
  | n + 1 => if hasDot a (nth b n).dot = true then goneAt (cellsI a b n) (nth b n).dot (nth b n).gone else insF cellLt (nth b n) (cellsI a b n)
def cellsA (a b : List GCell) : Nat → List GCell
  | 0 => a
  | n + 1 => if hasDot a (nth b n).dot = true then goneAt (cellsA a b n) (nth b n).dot (nth b n).gone else cellsA a b n ++ [nth b n]
theorem goneAt_len (l : List GCell) (d : GDot) (g : Bool) : (goneAt l d g).length = l.length := by simp [goneAt]
theorem goneAt_dots (l : List GCell) (d : GDot) (g : Bool) : (goneAt l d g).map (·.dot) = l.map (·.dot) := by
  simp only [goneAt, List.map_map]
  apply List.map_congr_left
  intro c _
  simp only [Function.comp_def]
  split <;> rfl
theorem goneAt_false (l : List GCell) (d : GDot) : goneAt l d false = l := by
  unfold goneAt
  conv => rhs; rw [← List.map_id l]
  apply List.map_congr_left
  intro c _
  split <;> simp
theorem cellsA_len (a b : List GCell) : ∀ n, (cellsA a b n).length ≤ a.length + n
  | 0 => by simp [cellsA]
  | n + 1 => by
    have := cellsA_len a b n
    simp only [cellsA]; split
    · rw [goneAt_len]; omega
    · simp; omega
theorem cellsI_perm (a b : List GCell) : ∀ n, (cellsI a b n).Perm (cellsA a b n)
  | 0 => List.Perm.refl _
  | n + 1 => by
    simp only [cellsI, cellsA]
    split
    · exact (cellsI_perm a b n).map _
    · exact (insF_perm _ _).trans (((cellsI_perm a b n).cons _).trans (List.perm_append_comm (l₁ := [nth b n])))
theorem cellsI_len (a b : List GCell) (n : Nat) : (cellsI a b n).length ≤ a.length + n := by
  rw [(cellsI_perm a b n).length_eq]; exact cellsA_len a b n
theorem cellsA_dots (a b : List GCell) : ∀ n, (cellsA a b n).map (·.dot) = a.map (·.dot) ++ (filK (fun c => !hasDot a c.dot) [] b n).map (·.dot)
  | 0 => by simp [cellsA, filK]
  | n + 1 => by
    simp only [cellsA, filK]
    have ih := cellsA_dots a b n
    by_cases h : hasDot a (nth b n).dot = true
    · rw [if_pos h, goneAt_dots, ih]; simp [h]
    · rw [if_neg h, List.map_append, ih]; simp [h]
def SortC (l : List GCell) : Prop := l.Pairwise fun x y => cellLt x y = true
theorem hasDot_iff {l : List GCell} {d : GDot} : hasDot l d = true ↔ ∃ c, c ∈ l ∧ c.dot = d := by simp [hasDot]
theorem SortC_dots {l : List GCell} : SortC l ↔ (l.map (·.dot)).Pairwise fun x y => before x y = true := by
  unfold SortC; rw [List.pairwise_map]; rfl
theorem dots_mem {a b : List GCell} {n : Nat} (hn : n ≤ b.length) {c : GCell} (hc : c ∈ cellsI a b n) : hasDot a c.dot = true ∨ ∃ i, i < n ∧ (nth b i).dot = c.dot ∧ hasDot a c.dot = false := by
  have h1 : c.dot ∈ (cellsA a b n).map (·.dot) := List.mem_map_of_mem ((cellsI_perm a b n).mem_iff.1 hc)
  rw [cellsA_dots, List.mem_append] at h1
  rcases h1 with h1 | h1
  · obtain ⟨x, hx, e⟩ := List.mem_map.1 h1
    exact .inl (hasDot_iff.2 ⟨x, hx, e⟩)
  · obtain ⟨x, hx, e⟩ := List.mem_map.1 h1
    rcases (filK_mem hn).1 hx with h2 | ⟨i, hi, e2, hp⟩
    · cases h2
    · refine .inr ⟨i, hi, by rw [e2]; exact e, ?_⟩
      rw [← e]; simpa using hp
theorem cellsI_sorted {a b : List GCell} (ha : SortC a) (hb : SortC b) : ∀ n, n ≤ b.length → SortC (cellsI a b n)
  | 0, _ => ha
  | n + 1, h => by
    have ih := cellsI_sorted ha hb n (by omega)
    simp only [cellsI]
    split
    · rw [SortC_dots, goneAt_dots, ← SortC_dots]; exact ih
    · rename_i hh
      refine insF_sorted cellLt_Lt ih fun y hy h2 => before_ne (fun e => ?_) h2
      rcases dots_mem (by omega) hy with h3 | ⟨i, hi, e2, h3⟩
      · rw [← e] at h3; exact hh h3
      · have := pw_nth hb hi (by omega)
        simp only [cellLt] at this
        rw [e2, e, before_irr] at this
        cases this
theorem cellsI_has {a b : List GCell} (hb : SortC b) {n : Nat} (hn : n < b.length) : hasDot (cellsI a b n) (nth b n).dot = hasDot a (nth b n).dot := by
  rw [Bool.eq_iff_iff]
  constructor
  · intro h
    obtain ⟨c, hc, e⟩ := hasDot_iff.1 h
    rcases dots_mem (by omega) hc with h3 | ⟨i, hi, e2, h3⟩
    · rw [e] at h3; exact h3
    · have := pw_nth hb hi hn
      simp only [cellLt] at this
      rw [e2, e, before_irr] at this
      cases this
  · intro h
    obtain ⟨c, hc, e⟩ := hasDot_iff.1 h
    have h1 : (nth b n).dot ∈ (cellsA a b n).map (·.dot) := by
      rw [cellsA_dots, List.mem_append]
      exact .inl (e ▸ List.mem_map_of_mem hc)
    obtain ⟨x, hx, e2⟩ := List.mem_map.1 h1
    exact hasDot_iff.2 ⟨x, (cellsI_perm a b n).mem_iff.2 hx, e2⟩
/-- a place's Gone turned on -/
theorem gone_set {l : List GCell} (hs : (l.map (·.dot)).Nodup) {i : Nat} (hi : i < l.length) (g : Bool) : l.set i { nth l i with gone := (nth l i).gone || g } = goneAt l (nth l i).dot g := by
  apply List.ext_getElem
  · simp [goneAt]
  · intro j h1 h2
    have hj : j < l.length := by simpa using h1
    simp only [goneAt, List.getElem_map, List.getElem_set]
    by_cases e : i = j
    · subst e; simp [nth_eq hi]
    · rw [if_neg e, if_neg]
      intro e2
      have e4 : l[j].dot = l[i].dot := by rw [e2, nth_eq hi]
      clear e2
      have := (List.nodup_iff_pairwise_ne.1 hs)
      rw [List.pairwise_iff_getElem] at this
      rcases Nat.lt_or_gt_of_ne e with h3 | h3
      · exact this i j (by simpa using hi) (by simpa using hj) h3 (by simpa using e4.symm)
      · exact this j i (by simpa using hj) (by simpa using hi) h3 (by simpa using e4)
theorem SortC_nodup {l : List GCell} (h : SortC l) : (l.map (·.dot)).Nodup := by
  rw [SortC_dots] at h
  rw [List.nodup_iff_pairwise_ne]
  exact h.imp fun {a b} hab e => by rw [e, before_irr] at hab; cases hab
theorem cellsA_nodup {a b : List GCell} (ha : SortC a) (hb : SortC b) {n : Nat} (hn : n ≤ b.length) : ((cellsA a b n).map (·.dot)).Nodup :=
  (((cellsI_perm a b n).map _).nodup_iff).1 (SortC_nodup (cellsI_sorted ha hb n hn))
theorem cellsA_at {a b : List GCell} {n i : Nat} (hi : i < a.length) : i < (cellsA a b n).length ∧ (nth (cellsA a b n) i).dot = (nth a i).dot := by
  have h := cellsA_dots a b n
  have hl : i < (cellsA a b n).length := by
    have := congrArg List.length h
    simp at this; omega
  refine ⟨hl, ?_⟩
  have h2 : ((cellsA a b n).map (·.dot))[i]? = (a.map (·.dot))[i]? := by
    rw [h, List.getElem?_append_left (by simpa using hi)]
  simpa [nth_eq hl, nth_eq hi, hl, hi] using h2
theorem hasDot_at {l : List GCell} {d : GDot} {i : Nat} (h : i < l.length) (e : (nth l i).dot = d) : hasDot l d = true := hasDot_iff.2 ⟨_, nth_mem h, e⟩
theorem hasDot_no {l : List GCell} {d : GDot} (h : ∀ i : Nat, i < l.length → (nth l i).dot ≠ d) : hasDot l d = false := by
  cases e : hasDot l d
  · rfl
  · obtain ⟨c, hc, e2⟩ := hasDot_iff.1 e
    obtain ⟨i, hi, e3⟩ := mem_nth hc
    exact absurd (by rw [e3]; exact e2) (h i hi)
def cellsU (a b : List GCell) : List GCell := cellsI a b b.length
end Am
