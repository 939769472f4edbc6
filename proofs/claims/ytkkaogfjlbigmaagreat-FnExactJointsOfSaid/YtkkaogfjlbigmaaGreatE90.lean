/- Marks of a commit and of all that it is behind: plainly. No condition. -/
import Derived.Test.YtkkaogfjlbigmaaGreatD
import Derived.Test.YtkkaogfjlbigmaaGreatE61
import Derived.Test.YtkkaogfjlbigmaaGreatAm35
namespace Am
open Go
set_option linter.unusedSimpArgs false
set_option linter.unusedVariables false

theorem nth_set {α : Type} [Cel α] (m : List α) (i x : Nat) (v : α) : nth (m.set i v) x = if x = i ∧ i < m.length then v else nth m x := by
  unfold nth
  rw [List.getD_eq_getElem?_getD, List.getD_eq_getElem?_getD, List.getElem?_set]
  by_cases e : i = x
  · subst e
    by_cases h : i < m.length
    · simp [h]
    · simp [h]
  · have e' : ¬ x = i := fun h => e h.symm
    simp [e, e']
theorem nth_append_left {α : Type} [Cel α] {a b : List α} {i : Nat} (h : i < a.length) : nth (a ++ b) i = nth a i := by
  unfold nth
  rw [List.getD_eq_getElem?_getD, List.getD_eq_getElem?_getD, List.getElem?_append_left h]
theorem nth_append_right {α : Type} [Cel α] {a b : List α} {i : Nat} (h : a.length ≤ i) : nth (a ++ b) i = nth b (i - a.length) := by
  unfold nth
  rw [List.getD_eq_getElem?_getD, List.getD_eq_getElem?_getD, List.getElem?_append_right h]
theorem nth_rep {α : Type} [Cel α] (n i : Nat) : nth (List.replicate n (Cel.dflt : α)) i = Cel.dflt := by
  unfold nth
  rw [List.getD_eq_getElem?_getD, List.getElem?_replicate]
  split <;> rfl
theorem nth_false (n i : Nat) : nth (List.replicate n false) i = false := nth_rep n i
theorem nth_out {α : Type} [Cel α] {m : List α} {i : Nat} (h : m.length ≤ i) : nth m i = Cel.dflt := by
  unfold nth
  rw [List.getD_eq_getElem?_getD, List.getElem?_eq_none h]
  rfl

/-- Those before the j-th are marked. -/
def setK (m : List Bool) (us : List Int) : Nat → List Bool
  | 0 => m
  | j + 1 => (setK m us j).set (nth us j).toNat true
@[simp] theorem setK_len (m : List Bool) (us : List Int) : ∀ j, (setK m us j).length = m.length
  | 0 => rfl
  | j + 1 => by rw [setK, List.length_set, setK_len]
theorem setK_keep {us : List Int} {i : Nat} (m : List Bool) : ∀ j : Nat, (∀ x, x < j → (nth us x).toNat < i) → ∀ x, i ≤ x → nth (setK m us j) x = nth m x
  | 0, _, _, _ => rfl
  | j + 1, h, x, hx => by
    have := h j (by omega)
    rw [setK, nth_set, if_neg (by omega), setK_keep m j (fun y hy => h y (by omega)) x hx]
theorem setK_app {us : List Int} (m z : List Bool) : ∀ j : Nat, (∀ x, x < j → (nth us x).toNat < m.length) → setK (m ++ z) us j = setK m us j ++ z
  | 0, _ => rfl
  | j + 1, h => by
    rw [setK, setK_app m z j (fun y hy => h y (by omega)), setK, List.set_append_left _ _ (by rw [setK_len]; exact h j (by omega))]

def upsOf (g : GGraph) (i : Nat) : List Int := (nth g.commits i).ups
def stepU (g : GGraph) (m : List Bool) (i : Nat) : List Bool := if nth m i then setK m (upsOf g i) (upsOf g i).length else m
def runM (g : GGraph) (m : List Bool) (n : Nat) : Nat → List Bool
  | 0 => m
  | d + 1 => stepU g (runM g m n d) (n - 1 - d)
@[simp] theorem stepU_len (g : GGraph) (m : List Bool) (i : Nat) : (stepU g m i).length = m.length := by
  unfold stepU; split
  · rw [setK_len]
  · rfl
@[simp] theorem runM_len (g : GGraph) (m : List Bool) (n : Nat) : ∀ d, (runM g m n d).length = m.length
  | 0 => rfl
  | d + 1 => by rw [runM, stepU_len, runM_len]

/-- What a right graph says of its commits' ups. -/
def upsLt (g : GGraph) : Prop := ∀ i : Nat, i < g.commits.length → ∀ j : Nat, j < (upsOf g i).length → 0 ≤ nth (upsOf g i) j ∧ nth (upsOf g i) j < i
theorem graphOk_ups {g : GGraph} (h : graphOk g = true) : upsLt g := by
  intro i hi j hj
  simp only [graphOk, Bool.and_eq_true] at h
  have hc := allB_iff.1 h.2 i hi
  simp only [comOk, Bool.and_eq_true] at hc
  have hu := allB_iff.1 hc.2 j hj
  simp only [upAt, spIn, Bool.and_eq_true, decide_eq_true_eq] at hu
  unfold upsOf
  omega

theorem stepU_keep {g : GGraph} (hu : upsLt g) {i : Nat} (hi : i < g.commits.length) (m : List Bool) {x : Nat} (hx : i ≤ x) : nth (stepU g m i) x = nth m x := by
  unfold stepU
  split
  · exact setK_keep m _ (fun y hy => by have := hu i hi y hy; omega) x hx
  · rfl
theorem runM_keep {g : GGraph} (hu : upsLt g) {n : Nat} (hn : n ≤ g.commits.length) (m : List Bool) (d : Nat) : ∀ e : Nat, d + e ≤ n → ∀ x, n - 1 - d ≤ x → nth (runM g m n (d + e)) x = nth (runM g m n d) x
  | 0, _, _, _ => rfl
  | e + 1, h, x, hx => by
    rw [← Nat.add_assoc, runM, stepU_keep hu (by omega) _ (by omega), runM_keep hu hn m d e (by omega) x hx]
theorem runM_at {g : GGraph} (hu : upsLt g) {n : Nat} (hn : n ≤ g.commits.length) (m : List Bool) {d : Nat} (h : d < n) : nth (runM g m n d) (n - 1 - d) = nth (runM g m n n) (n - 1 - d) := by
  have := runM_keep hu hn m d (n - d) (by omega) (n - 1 - d) (Nat.le_refl _)
  rw [show d + (n - d) = n by omega] at this
  exact this.symm

def startM (n k : Nat) : List Bool := (List.replicate n false).set k true
@[simp] theorem startM_len (n k : Nat) : (startM n k).length = n := by simp [startM]
/-- The marks of a commit, up to its own place. -/
def marks (g : GGraph) (k : Nat) : List Bool := runM g (startM (k + 1) k) (k + 1) (k + 1)
@[simp] theorem marks_len (g : GGraph) (k : Nat) : (marks g k).length = k + 1 := by simp [marks]
theorem runM_skip (g : GGraph) {n k : Nat} : ∀ d : Nat, d ≤ n - 1 - k → runM g (startM n k) n d = startM n k
  | 0, _ => rfl
  | d + 1, h => by
    rw [runM, runM_skip g d (by omega)]
    unfold stepU
    rw [if_neg]
    unfold startM
    rw [nth_set, if_neg (by omega), nth_false]
    simp
theorem startM_app {n k : Nat} (h : k < n) : startM n k = startM (k + 1) k ++ List.replicate (n - 1 - k) false := by
  unfold startM
  rw [← List.set_append_left _ _ (by simp), List.replicate_append_replicate]
  congr 2
  omega
theorem runM_app {g : GGraph} (hu : upsLt g) {n k : Nat} (hn : n ≤ g.commits.length) (h : k < n) : ∀ e : Nat, e ≤ k + 1 → runM g (startM n k) n (n - 1 - k + e) = runM g (startM (k + 1) k) (k + 1) e ++ List.replicate (n - 1 - k) false
  | 0, _ => by rw [Nat.add_zero, runM_skip g _ (Nat.le_refl _), runM, startM_app h]
  | e + 1, h' => by
    rw [← Nat.add_assoc, runM, runM_app hu hn h e (by omega), runM]
    unfold stepU
    rw [show n - 1 - (n - 1 - k + e) = k + 1 - 1 - e by omega, nth_append_left (by simp; omega)]
    split
    · rw [setK_app _ _ _ (fun y hy => by
        have e0 : k + 1 - 1 - e < g.commits.length := by omega
        have hq : k + 1 - 1 - e ≤ k := by omega
        generalize k + 1 - 1 - e = q at e0 hy hq ⊢
        have := hu q e0 y hy; simp; omega)]
    · rfl
/-- The marks of a commit over all that the graph has. -/
def marksS (g : GGraph) (k : Nat) : List Bool := runM g (startM g.commits.length k) g.commits.length g.commits.length
theorem marksS_eq {g : GGraph} (hu : upsLt g) {k : Nat} (h : k < g.commits.length) : marksS g k = marks g k ++ List.replicate (g.commits.length - 1 - k) false := by
  have := runM_app hu (Nat.le_refl _) h (k + 1) (Nat.le_refl _)
  rw [show g.commits.length - 1 - k + (k + 1) = g.commits.length by omega] at this
  exact this
@[simp] theorem marksS_len (g : GGraph) (k : Nat) : (marksS g k).length = g.commits.length := by simp [marksS]

/-- The marked places below i, in order. -/
def markK (m : List Bool) : Nat → List Int
  | 0 => []
  | i + 1 => if nth m i then markK m i ++ [(i : Int)] else markK m i
/-- The marked places of the last d, the last first. -/
def markD (m : List Bool) (n : Nat) : Nat → List Int
  | 0 => []
  | d + 1 => if nth m (n - 1 - d) then markD m n d ++ [((n - 1 - d : Nat) : Int)] else markD m n d
theorem markK_len (m : List Bool) : ∀ i, (markK m i).length ≤ i
  | 0 => Nat.le_refl _
  | i + 1 => by
    have := markK_len m i
    rw [markK]; split
    · simp; omega
    · omega
theorem markD_len (m : List Bool) (n : Nat) : ∀ i, (markD m n i).length ≤ i
  | 0 => Nat.le_refl _
  | i + 1 => by
    have := markD_len m n i
    rw [markD]; split
    · simp; omega
    · omega
theorem markD_rev (m : List Bool) (n : Nat) : ∀ d, d ≤ n → markK m (n - d) ++ (markD m n d).reverse = markK m n
  | 0, _ => by simp [markD]
  | d + 1, h => by
    rw [← markD_rev m n d (by omega)]
    have e : n - d = n - (d + 1) + 1 := by omega
    rw [e, markK, markD, show n - (d + 1) = n - 1 - d by omega]
    split <;> simp
theorem markD_eq (m : List Bool) (n : Nat) : (markD m n n).reverse = markK m n := by
  have := markD_rev m n n (Nat.le_refl _)
  rw [Nat.sub_self] at this
  exact this
theorem markK_app (m : List Bool) (z : Nat) : ∀ e, markK (m ++ List.replicate z false) (m.length + e) = markK m m.length
  | 0 => by
    have : ∀ i, i ≤ m.length → markK (m ++ List.replicate z false) i = markK m i := by
      intro i
      induction i with
      | zero => intro; rfl
      | succ i ih => intro h; rw [markK, markK, ih (by omega), nth_append_left (by omega)]
    exact this _ (Nat.le_refl _)
  | e + 1 => by
    rw [← Nat.add_assoc, markK, markK_app m z e, nth_append_right (by omega), nth_false]
    rfl
/-- The places of a commit and of all that it is behind. -/
def upsL (g : GGraph) (k : Nat) : List Int := markK (marks g k) (k + 1)
theorem upsL_S {g : GGraph} (hu : upsLt g) {k : Nat} (h : k < g.commits.length) : markK (marksS g k) g.commits.length = upsL g k := by
  rw [marksS_eq hu h]
  have := markK_app (marks g k) (g.commits.length - 1 - k) (g.commits.length - 1 - k)
  rw [marks_len, show k + 1 + (g.commits.length - 1 - k) = g.commits.length by omega] at this
  exact this

/-- A list by what stands at its places. -/
def tab {α : Type} (n : Nat) (f : Nat → α) : List α := (List.range n).map f
@[simp] theorem tab_len {α : Type} (n : Nat) (f : Nat → α) : (tab n f).length = n := by simp [tab]
theorem nth_tab {α : Type} [Cel α] {n i : Nat} (f : Nat → α) (h : i < n) : nth (tab n f) i = f i := by
  rw [nth_eq (by simpa using h)]; simp [tab]
theorem tab_ext {α : Type} {n : Nat} {f g : Nat → α} (h : ∀ i, i < n → f i = g i) : tab n f = tab n g := by
  unfold tab
  apply List.map_congr_left
  intro i hi
  exact h i (List.mem_range.1 hi)
theorem tab_nth {α : Type} [Cel α] (m : List α) : tab m.length (nth m) = m := by
  apply list_eq_of_nth (by simp)
  intro j hj
  rw [nth_tab _ (by simpa using hj)]
theorem tab_set {α : Type} (n i : Nat) (f : Nat → α) (v : α) : (tab n f).set i v = tab n (fun x => if x = i then v else f x) := by
  unfold tab
  apply List.ext_getElem (by simp)
  intro j h1 h2
  simp only [List.length_set, List.length_map, List.length_range] at h1
  rw [List.getElem_set]
  by_cases e : i = j
  · subst e; simp
  · have : ¬ j = i := fun h => e h.symm
    simp [e, this]
/-- Turned round up to a place, at both ends. -/
def revAt (xs : List Int) (p : Nat) : List Int := tab xs.length (fun i => if i < p ∨ xs.length - p ≤ i then nth xs (xs.length - 1 - i) else nth xs i)
@[simp] theorem revAt_len (xs : List Int) (p : Nat) : (revAt xs p).length = xs.length := by simp [revAt]
theorem revAt_zero (xs : List Int) : revAt xs 0 = xs := by
  unfold revAt
  rw [tab_ext (g := nth xs) (fun i hi => by rw [if_neg (by omega)]), tab_nth]
theorem revAt_end {xs : List Int} {p : Nat} (h : xs.length ≤ 2 * p + 1) (hp : p ≤ xs.length) : revAt xs p = xs.reverse := by
  apply list_eq_of_nth (by simp)
  intro j hj
  simp only [revAt_len] at hj
  unfold revAt
  rw [nth_tab _ hj, nth_eq (by simpa using hj : j < xs.reverse.length), List.getElem_reverse]
  split
  · rw [nth_eq (by omega)]
  · rw [nth_eq hj]; congr 1; omega
theorem revAt_step {xs : List Int} {p : Nat} (h : 2 * p + 1 < xs.length) : ((revAt xs p).set p (nth (revAt xs p) (xs.length - 1 - p))).set (xs.length - 1 - p) (nth (revAt xs p) p) = revAt xs (p + 1) := by
  have h1 : nth (revAt xs p) (xs.length - 1 - p) = nth xs (xs.length - 1 - p) := by
    unfold revAt; rw [nth_tab _ (by omega), if_neg (by omega)]
  have h2 : nth (revAt xs p) p = nth xs p := by
    unfold revAt; rw [nth_tab _ (by omega), if_neg (by omega)]
  rw [h1, h2]
  unfold revAt
  rw [tab_set, tab_set]
  apply tab_ext
  intro i hi
  by_cases e1 : i = xs.length - 1 - p
  · subst e1
    rw [if_pos rfl, if_pos (by omega)]; congr 1; omega
  · rw [if_neg e1]
    by_cases e2 : i = p
    · subst e2; rw [if_pos rfl, if_pos (by omega)]
    · rw [if_neg e2]
      by_cases e3 : i < p ∨ xs.length - p ≤ i
      · rw [if_pos e3, if_pos (by omega)]
      · rw [if_neg e3, if_neg (by omega)]
end Am
