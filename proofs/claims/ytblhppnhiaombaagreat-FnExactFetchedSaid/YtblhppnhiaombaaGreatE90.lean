/- Marks of a commit and of all that it is behind: plainly. No condition. -/
import Derived.Test.YtblhppnhiaombaaGreatD
import Derived.Test.YtblhppnhiaombaaGreatE61
import Derived.Test.YtblhppnhiaombaaGreatAm35
import Derived.Test.YtblhppnhiaombaaGreatT
import Derived.Test.YtblhppnhiaombaaGreatE57
namespace Am
open Go
set_option linter.unusedSimpArgs false
set_option linter.unusedVariables false

theorem nth_set {α : Type} [Cel α] (m : List α) (i x : Nat) (v : α) : nth (m.set i v) x = if x = i ∧ i < m.length then v else nth m x := by
  unfold nth
  rw [List.getD_eq_getElem?_getD, List.getD_eq_getElem?_getD, List.getElem?_set]
  by_cases e : i = x
  · subst e
    by_cases h : i < m.length
    · simp [h]
    · simp [h]
  · have e' : ¬ x = i := fun h => e h.symm
    simp [e, e']
theorem nth_append_left {α : Type} [Cel α] {a b : List α} {i : Nat} (h : i < a.length) : nth (a ++ b) i = nth a i := by
  unfold nth
  rw [List.getD_eq_getElem?_getD, List.getD_eq_getElem?_getD, List.getElem?_append_left h]
theorem nth_append_right {α : Type} [Cel α] {a b : List α} {i : Nat} (h : a.length ≤ i) : nth (a ++ b) i = nth b (i - a.length) := by
  unfold nth
  rw [List.getD_eq_getElem?_getD, List.getD_eq_getElem?_getD, List.getElem?_append_right h]
theorem nth_rep {α : Type} [Cel α] (n i : Nat) : nth (List.replicate n (Cel.dflt : α)) i = Cel.dflt := by
  unfold nth
  rw [List.getD_eq_getElem?_getD, List.getElem?_replicate]
  split <;> rfl
theorem nth_false (n i : Nat) : nth (List.replicate n false) i = false := nth_rep n i
theorem nth_out {α : Type} [Cel α] {m : List α} {i : Nat} (h : m.length ≤ i) : nth m i = Cel.dflt := by
  unfold nth
  rw [List.getD_eq_getElem?_getD, List.getElem?_eq_none h]
  rfl

/-- Those before the j-th are marked. -/
def setK (m : List Bool) (us : List Int) : Nat → List Bool
  | 0 => m
  | j + 1 => (setK m us j).set (nth us j).toNat true
@[simp] theorem setK_len (m : List Bool) (us : List Int) : ∀ j, (setK m us j).length = m.length
  | 0 => rfl
  | j + 1 => by rw [setK, List.length_set, setK_len]
theorem setK_keep {us : List Int} {i : Nat} (m : List Bool) : ∀ j : Nat, (∀ x, x < j → (nth us x).toNat < i) → ∀ x, i ≤ x → nth (setK m us j) x = nth m x
  | 0, _, _, _ => rfl
  | j + 1, h, x, hx => by
    have := h j (by omega)
    rw [setK, nth_set, if_neg (by omega), setK_keep m j (fun y hy => h y (by omega)) x hx]
theorem setK_app {us : List Int} (m z : List Bool) : ∀ j : Nat, (∀ x, x < j → (nth us x).toNat < m.length) → setK (m ++ z) us j = setK m us j ++ z
  | 0, _ => rfl
  | j + 1, h => by
    rw [setK, setK_app m z j (fun y hy => h y (by omega)), setK, List.set_append_left _ _ (by rw [setK_len]; exact h j (by omega))]

def upsOf (g : GGraph) (i : Nat) : List Int := (nth g.commits i).ups
def stepU (g : GGraph) (m : List Bool) (i : Nat) : List Bool := if nth m i then setK m (upsOf g i) (upsOf g i).length else m
def runM (g : GGraph) (m : List Bool) (n : Nat) : Nat → List Bool
  | 0 => m
  | d + 1 => stepU g (runM g m n d) (n - 1 - d)
@[simp] theorem stepU_len (g : GGraph) (m : List Bool) (i : Nat) : (stepU g m i).length = m.length := by
  unfold stepU; split
  · rw [setK_len]
  · rfl
@[simp] theorem runM_len (g : GGraph) (m : List Bool) (n : Nat) : ∀ d, (runM g m n d).length = m.length
  | 0 => rfl
  | d + 1 => by rw [runM, stepU_len, runM_len]

/-- What a right graph says of its commits' ups. -/
def upsLt (g : GGraph) : Prop := ∀ i : Nat, i < g.commits.length → ∀ j : Nat, j < (upsOf g i).length → 0 ≤ nth (upsOf g i) j ∧ nth (upsOf g i) j < i
theorem graphOk_ups {g : GGraph} (h : graphOk g = true) : upsLt g := by
  intro i hi j hj
  simp only [graphOk, Bool.and_eq_true] at h
  have hc := allB_iff.1 h.2 i hi
  simp only [comOk, Bool.and_eq_true] at hc
  have hu := allB_iff.1 hc.2 j hj
  simp only [upAt, spIn, Bool.and_eq_true, decide_eq_true_eq] at hu
  unfold upsOf
  omega

theorem stepU_keep {g : GGraph} (hu : upsLt g) {i : Nat} (hi : i < g.commits.length) (m : List Bool) {x : Nat} (hx : i ≤ x) : nth (stepU g m i) x = nth m x := by
  unfold stepU
  split
  · exact setK_keep m _ (fun y hy => by have := hu i hi y hy; omega) x hx
  · rfl
theorem runM_keep {g : GGraph} (hu : upsLt g) {n : Nat} (hn : n ≤ g.commits.length) (m : List Bool) (d : Nat) : ∀ e : Nat, d + e ≤ n → ∀ x, n - 1 - d ≤ x → nth (runM g m n (d + e)) x = nth (runM g m n d) x
  | 0, _, _, _ => rfl
  | e + 1, h, x, hx => by
    rw [← Nat.add_assoc, runM, stepU_keep hu (by omega) _ (by omega), runM_keep hu hn m d e (by omega) x hx]
theorem runM_at {g : GGraph} (hu : upsLt g) {n : Nat} (hn : n ≤ g.commits.length) (m : List Bool) {d : Nat} (h : d < n) : nth (runM g m n d) (n - 1 - d) = nth (runM g m n n) (n - 1 - d) := by
  have := runM_keep hu hn m d (n - d) (by omega) (n - 1 - d) (Nat.le_refl _)
  rw [show d + (n - d) = n by omega] at this
  exact this.symm

def startM (n k : Nat) : List Bool := (List.replicate n false).set k true
@[simp] theorem startM_len (n k : Nat) : (startM n k).length = n := by simp [startM]
/-- The marks of a commit, up to its own place. -/
def marks (g : GGraph) (k : Nat) : List Bool := runM g (startM (k + 1) k) (k + 1) (k + 1)
@[simp] theorem marks_len (g : GGraph) (k : Nat) : (marks g k).length = k + 1 := by simp [marks]
theorem runM_skip (g : GGraph) {n k : Nat} : ∀ d : Nat, d ≤ n - 1 - k → runM g (startM n k) n d = startM n k
  | 0, _ => rfl
  | d + 1, h => by
    rw [runM, runM_skip g d (by omega)]
    unfold stepU
    rw [if_neg]
    unfold startM
    rw [nth_set, if_neg (by omega), nth_false]
    simp
theorem startM_app {n k : Nat} (h : k < n) : startM n k = startM (k + 1) k ++ List.replicate (n - 1 - k) false := by
  unfold startM
  rw [← List.set_append_left _ _ (by simp), List.replicate_append_replicate]
  congr 2
  omega
theorem runM_app {g : GGraph} (hu : upsLt g) {n k : Nat} (hn : n ≤ g.commits.length) (h : k < n) : ∀ e : Nat, e ≤ k + 1 → runM g (startM n k) n (n - 1 - k + e) = runM g (startM (k + 1) k) (k + 1) e ++ List.replicate (n - 1 - k) false
  | 0, _ => by rw [Nat.add_zero, runM_skip g _ (Nat.le_refl _), runM, startM_app h]
  | e + 1, h' => by
    rw [← Nat.add_assoc, runM, runM_app hu hn h e (by omega), runM]
    unfold stepU
    rw [show n - 1 - (n - 1 - k + e) = k + 1 - 1 - e by omega, nth_append_left (by simp; omega)]
    split
    · rw [setK_app _ _ _ (fun y hy => by
        have e0 : k + 1 - 1 - e < g.commits.length := by omega
        have hq : k + 1 - 1 - e ≤ k := by omega
        generalize k + 1 - 1 - e = q at e0 hy hq ⊢
        have := hu q e0 y hy; simp; omega)]
    · rfl
/-- The marks of a commit over all that the graph has. -/
def marksS (g : GGraph) (k : Nat) : List Bool := runM g (startM g.commits.length k) g.commits.length g.commits.length
theorem marksS_eq {g : GGraph} (hu : upsLt g) {k : Nat} (h : k < g.commits.length) : marksS g k = marks g k ++ List.replicate (g.commits.length - 1 - k) false := by
  have := runM_app hu (Nat.le_refl _) h (k + 1) (Nat.le_refl _)
  rw [show g.commits.length - 1 - k + (k + 1) = g.commits.length by omega] at this
  exact this
@[simp] theorem marksS_len (g : GGraph) (k : Nat) : (marksS g k).length = g.commits.length := by simp [marksS]

/-- The marked places below i, in order. -/
def markK (m : List Bool) : Nat → List Int
  | 0 => []
  | i + 1 => if nth m i then markK m i ++ [(i : Int)] else markK m i
/-- The marked places of the last d, the last first. -/
def markD (m : List Bool) (n : Nat) : Nat → List Int
  | 0 => []
  | d + 1 => if nth m (n - 1 - d) then markD m n d ++ [((n - 1 - d : Nat) : Int)] else markD m n d
theorem markK_len (m : List Bool) : ∀ i, (markK m i).length ≤ i
  | 0 => Nat.le_refl _
  | i + 1 => by
    have := markK_len m i
    rw [markK]; split
    · simp; omega
    · omega
theorem markD_len (m : List Bool) (n : Nat) : ∀ i, (markD m n i).length ≤ i
  | 0 => Nat.le_refl _
  | i + 1 => by
    have := markD_len m n i
    rw [markD]; split
    · simp; omega
    · omega
theorem markD_rev (m : List Bool) (n : Nat) : ∀ d, d ≤ n → markK m (n - d) ++ (markD m n d).reverse = markK m n
  | 0, _ => by simp [markD]
  | d + 1, h => by
    rw [← markD_rev m n d (by omega)]
    have e : n - d = n - (d + 1) + 1 := by omega
    rw [e, markK, markD, show n - (d + 1) = n - 1 - d by omega]
    split <;> simp
theorem markD_eq (m : List Bool) (n : Nat) : (markD m n n).reverse = markK m n := by
  have := markD_rev m n n (Nat.le_refl _)
  rw [Nat.sub_self] at this
  exact this
theorem markK_app (m : List Bool) (z : Nat) : ∀ e, markK (m ++ List.replicate z false) (m.length + e) = markK m m.length
  | 0 => by
    have : ∀ i, i ≤ m.length → markK (m ++ List.replicate z false) i = markK m i := by
      intro i
      induction i with
      | zero => intro; rfl
      | succ i ih => intro h; rw [markK, markK, ih (by omega), nth_append_left (by omega)]
    exact this _ (Nat.le_refl _)
  | e + 1 => by
    rw [← Nat.add_assoc, markK, markK_app m z e, nth_append_right (by omega), nth_false]
    rfl
/-- The places of a commit and of all that it is behind. -/
def upsL (g : GGraph) (k : Nat) : List Int := markK (marks g k) (k + 1)
theorem upsL_S {g : GGraph} (hu : upsLt g) {k : Nat} (h : k < g.commits.length) : markK (marksS g k) g.commits.length = upsL g k := by
  rw [marksS_eq hu h]
  have := markK_app (marks g k) (g.commits.length - 1 - k) (g.commits.length - 1 - k)
  rw [marks_len, show k + 1 + (g.commits.length - 1 - k) = g.commits.length by omega] at this
  exact this

/-- A list by what stands at its places. -/
def tab {α : Type} (n : Nat) (f : Nat → α) : List α := (List.range n).map f
@[simp] theorem tab_len {α : Type} (n : Nat) (f : Nat → α) : (tab n f).length = n := by simp [tab]
theorem nth_tab {α : Type} [Cel α] {n i : Nat} (f : Nat → α) (h : i < n) : nth (tab n f) i = f i := by
  rw [nth_eq (by simpa using h)]; simp [tab]
theorem tab_ext {α : Type} {n : Nat} {f g : Nat → α} (h : ∀ i, i < n → f i = g i) : tab n f = tab n g := by
  unfold tab
  apply List.map_congr_left
  intro i hi
  exact h i (List.mem_range.1 hi)
theorem tab_nth {α : Type} [Cel α] (m : List α) : tab m.length (nth m) = m := by
  apply list_eq_of_nth (by simp)
  intro j hj
  rw [nth_tab _ (by simpa using hj)]
theorem tab_set {α : Type} (n i : Nat) (f : Nat → α) (v : α) : (tab n f).set i v = tab n (fun x => if x = i then v else f x) := by
  unfold tab
  apply List.ext_getElem (by simp)
  intro j h1 h2
  simp only [List.length_set, List.length_map, List.length_range] at h1
  rw [List.getElem_set]
  by_cases e : i = j
  · subst e; simp
  · have : ¬ j = i := fun h => e h.symm
    simp [e, this]
/-- Turned round up to a place, at both ends. -/
def revAt (xs : List Int) (p : Nat) : List Int := tab xs.length (fun i => if i < p ∨ xs.length - p ≤ i then nth xs (xs.length - 1 - i) else nth xs i)
@[simp] theorem revAt_len (xs : List Int) (p : Nat) : (revAt xs p).length = xs.length := by simp [revAt]
theorem revAt_zero (xs : List Int) : revAt xs 0 = xs := by
  unfold revAt
  rw [tab_ext (g := nth xs) (fun i hi => by rw [if_neg (by omega)]), tab_nth]
theorem revAt_end {xs : List Int} {p : Nat} (h : xs.length ≤ 2 * p + 1) (hp : p ≤ xs.length) : revAt xs p = xs.reverse := by
  apply list_eq_of_nth (by simp)
  intro j hj
  simp only [revAt_len] at hj
  unfold revAt
  rw [nth_tab _ hj, nth_eq (by simpa using hj : j < xs.reverse.length), List.getElem_reverse]
  split
  · rw [nth_eq (by omega)]
  · rw [nth_eq hj]; congr 1; omega
theorem revAt_step {xs : List Int} {p : Nat} (h : 2 * p + 1 < xs.length) : ((revAt xs p).set p (nth (revAt xs p) (xs.length - 1 - p))).set (xs.length - 1 - p) (nth (revAt xs p) p) = revAt xs (p + 1) := by
  have h1 : nth (revAt xs p) (xs.length - 1 - p) = nth xs (xs.length - 1 - p) := by
    unfold revAt; rw [nth_tab _ (by omega), if_neg (by omega)]
  have h2 : nth (revAt xs p) p = nth xs p := by
    unfold revAt; rw [nth_tab _ (by omega), if_neg (by omega)]
  rw [h1, h2]
  unfold revAt
  rw [tab_set, tab_set]
  apply tab_ext
  intro i hi
  by_cases e1 : i = xs.length - 1 - p
  · subst e1
    rw [if_pos rfl, if_pos (by omega)]; congr 1; omega
  · rw [if_neg e1]
    by_cases e2 : i = p
    · subst e2; rw [if_pos rfl, if_pos (by omega)]
    · rw [if_neg e2]
      by_cases e3 : i < p ∨ xs.length - p ≤ i
      · rw [if_pos e3, if_pos (by omega)]
      · rw [if_neg e3, if_neg (by omega)]
end Am
namespace Am
open Go Go.Proofs
open Cel (cells)
set_option maxRecDepth 100000
set_option linter.unusedSimpArgs false
set_option linter.unusedVariables false

@[simp] def h197 : Hts := { merge := fun _ => false, dr := fun id => if id = 3 then [{}, {}, { mn := [640000] }, { mn := [640000] }, {}, {}, {}, {}, {}, {}, {}, {}, { wr := [640000] }, { wr := [640000] }, { wr := [640000] }, { wr := [640000] }] else [] }
set_option maxHeartbeats 1000000 in
theorem f197_ok (xs : List Int) (ha : xs.length ≤ 1073741824) : FnW Tryz.prog 197 [.v (.ow 3 1 xs.length (flat xs))] (.tup []) [.v (.ow 3 1 xs.reverse.length (flat xs.reverse))] := by
  refine FnW.of_AW TryzT_ok 1 (fn := Tryz.f197) (by kernel_rfl) rfl (by kernel_rfl) rfl rfl rfl ?_; refine AW_of h197 TryzT_ok (by kernel_rfl) ?_
  have w0 : IntKind.i64.wrap ((xs.length : Int) - 1) = xs.length - 1 := wrap64 (by omega) (by omega)
  simp -dsimp [w0]
  refine AWh_loop (fun p : Nat => 2 * p ≤ xs.length) (fun p => mkE [(0, .arr 640000), (2, .c (.int .i64 p)), (3, .c (.int .i64 (xs.length - 1 - p)))] [(640000, .arr 0 3 1 xs.length (flat (revAt xs p)))]) (fun p => xs.length - p) 0 (Wk_to [0, 2, 3] [(640000, 640000)] rfl rfl (by simp [revAt_zero])) (by simp) ?_
  rintro p hp
  refine AW_of h197 TryzT_ok (by kernel_rfl) ?_
  rcases Int.lt_or_le (p : Int) (xs.length - 1 - p) with h1 | h1
  · have t1 : ((xs.length : Int) - 1 - p).toNat = xs.length - 1 - p := by omega
    have h2 : p < xs.length := by omega
    have h3 : xs.length - 1 - p < xs.length := by omega
    have wm : IntKind.i64.wrap ((xs.length : Int) - 1 - p - 1) = xs.length - 1 - (p + 1) := by rw [wrap64 (by omega) (by omega)]; omega
    have hne : ¬ revAt xs p = [] := by intro e; have := congrArg List.length e; simp at this; subst this; simp at h2
    simp -dsimp [h1, t1, h2, h3, hne]
    repeat (first | refine ⟨by omega, ?_⟩ | refine ⟨by simp [capMax]; omega, ?_⟩ | refine ⟨⟨by omega, by omega⟩, ?_⟩)
    trace_state
    exact Back_of (p + 1) [0, 2, 3] [(640000, 640000)] rfl rfl (by simp [← revAt_step (xs := xs) (p := p) (by omega), wm]; rw [wrap64 (by omega) (by omega)]) (by omega) (by omega)
  · have h1' : ¬ (p : Int) < xs.length - 1 - p := by omega
    simp -dsimp [h1']
    rw [revAt_end (by omega) (by omega)]

@[simp] def h246 : Hts := {  }
theorem f246_ok (l : List Int) (x : Int) (ha : l.length ≤ 1073741824) : FnR Tryz.prog 246 [.v (.im l.length (flat l)), .v (.int .i64 x)] (.v (.int .i64 (idx (fun y => decide (y = x)) l))) := by
  refine FnW.of_AW TryzT_ok 0 (fn := Tryz.f246) (by kernel_rfl) rfl (by kernel_rfl) rfl rfl rfl ?_; refine AW_of h246 TryzT_ok (by kernel_rfl) ?_
  simp -dsimp
  refine AWh_loop (fun i : Nat => i ≤ l.length ∧ ∀ j : Nat, j < i → decide (nth l j = x) = false) (fun i => mkE [(0, .c (.im l.length (flat l))), (1, .c (.int .i64 x)), (7, .c (.int .i64 l.length)), (8, .c (.int .i64 i))] []) (fun i => l.length - i) 0 (Wk_to [0, 1, 7, 8] [] rfl rfl (by simp)) (by simp) ?_
  rintro i ⟨hi, hall⟩
  refine AW_of h246 TryzT_ok (by kernel_rfl) ?_
  rcases Nat.lt_or_ge i l.length with h1 | h1
  · by_cases e0 : x = nth l i
    · have e1 : (x == nth l i) = true := by simp [e0]
      simp -dsimp [h1, ne_of_lt h1, e1]
      rw [idx_here h1 hall (by simp [e0])]
    · have e1 : (x == nth l i) = false := by simp [e0]
      simp -dsimp [h1, ne_of_lt h1, e1]
      refine Back_of (i + 1) [0, 1, 7, 8] [] rfl rfl (by simp; rw [wrap64 (by omega) (by omega)]) ⟨by omega, fun j hj => ?_⟩ (by omega)
      by_cases e3 : j = i
      · subst e3
        rw [decide_eq_false_iff_not]
        exact fun h => e0 h.symm
      · exact hall j (by omega)
  · simp -dsimp [Nat.not_lt.2 h1]
    rw [idx_none (fun j hj => hall j (by omega))]
@[simp] def h179 : Hts := {  }
theorem f179_ok (l : List Int) (x : Int) (ha : l.length ≤ 1073741824) : FnR Tryz.prog 179 [.v (.im l.length (flat l)), .v (.int .i64 x)] (.v (.bool (hasX l x))) := by
  refine FnW.of_AW TryzT_ok 0 (fn := Tryz.f179) (by kernel_rfl) rfl (by kernel_rfl) rfl rfl rfl ?_; refine AW_of h179 TryzT_ok (by kernel_rfl) ?_
  simp -dsimp
  refine ACallK_of (f246_ok _ _ ha) ?_
  simp -dsimp
  exact idx_has l

@[simp] def h107 : Hts := { merge := fun _ => false, mergeF := fun _ => false, lend := fun _ => [.lend] }
set_option maxHeartbeats 4000000 in
theorem f107_ok (g : GGraph) (hu : upsLt g) (hg : g.commits.length ≤ 1073741824) (hl : ∀ y, y ∈ g.commits → y.ups.length ≤ 1073741824) (k : Nat) (hk : k < g.commits.length) : FnR Tryz.prog 107 [.agg [.im g.commits.length (flat g.commits), .int .i64 g.head], .v (.int .i64 k)] (.v (.ow 3 1 (upsL g k).length (flat (upsL g k)))) := by
  refine FnW.of_AW TryzT_ok 0 (fn := Tryz.f107) (by kernel_rfl) rfl (by kernel_rfl) rfl rfl rfl ?_; refine AW_of h107 TryzT_ok (by kernel_rfl) ?_
  have w0 : IntKind.i64.wrap ((k : Int) + 1) = k + 1 := wrap64 (by omega) (by omega)
  have t0 : ((k : Int) + 1).toNat = k + 1 := by omega
  simp -dsimp [w0, t0]
  repeat (first | refine ⟨by omega, ?_⟩ | refine ⟨by simp [capMax]; omega, ?_⟩ | refine ⟨⟨by omega, by omega⟩, ?_⟩)
  have hn : k + 1 ≤ g.commits.length := hk
  refine AWh_loop (fun d : Nat => d ≤ k + 1) (fun d => mkE [(2, .box 128 0), (5, .arr 768), (6, .arr 1024), (7, .c (.int .i64 (k - d)))] [(128, .box [.c (.im g.commits.length (flat g.commits)), .c (.int .i64 g.head)]), (768, .arr 0 4 1 (k + 1) (flat (runM g (startM (k + 1) k) (k + 1) d))), (1024, .arr 0 3 1 (markD (marks g k) (k + 1) d).length (flat (markD (marks g k) (k + 1) d)))]) (fun d => k + 1 - d) 0 (Wk_to [2, 5, 6, 7] [(128, 128), (768, 768), (1024, 1024)] rfl rfl (by simp [startM, runM, markD])) (by simp) ?_
  rintro d hd
  have hml := markD_len (marks g k) (k + 1) d
  have hrl := runM_len g (startM (k + 1) k) (k + 1) d
  rw [startM_len] at hrl
  refine AW_of h107 TryzT_ok (by kernel_rfl) ?_
  rcases Nat.lt_or_ge d (k + 1) with h1 | h1
  · have g1 : d ≤ k := by omega
    have t1 : ((k : Int) - d).toNat = k - d := by omega
    have t2 : k - d < k + 1 := by omega
    have t3 : k - d < g.commits.length := by omega
    have hat := runM_at hu hn (startM (k + 1) k) h1
    rw [Nat.add_sub_cancel] at hat
    have hup := hl _ (nth_mem t3)
    have hup2 : (upsOf g (k - d)).length ≤ 1073741824 := hup
    have wm : IntKind.i64.wrap ((k : Int) - d - 1) = k - (d + 1) := by rw [wrap64 (by omega) (by omega)]; omega
    have hne : ¬ runM g (startM (k + 1) k) (k + 1) d = [] := by intro e; rw [e] at hrl; simp at hrl
    have hz : k + 1 - 1 - d = k - d := by omega
    cases q : nth (runM g (startM (k + 1) k) (k + 1) d) (k - d)
    · have qm : nth (marks g k) (k - d) = false := by rw [← q, hat]; rfl
      simp -dsimp [g1, t1, t2, hrl, hne, q]
      repeat (first | refine ⟨by omega, ?_⟩ | refine ⟨by simp [capMax]; omega, ?_⟩ | refine ⟨⟨by omega, by omega⟩, ?_⟩)
      exact Back_of (d + 1) [2, 5, 6, 7] [(128, 128), (768, 768), (1024, 1024)] rfl rfl (by simp [runM, markD, stepU, hz, q, qm, wm]) (by omega) (by omega)
    · have qm : nth (marks g k) (k - d) = true := by rw [← q, hat]; rfl
      simp -dsimp [g1, t1, t2, t3, ne_of_lt t3, hrl, hne, q]
      repeat (first | refine ⟨by omega, ?_⟩ | refine ⟨by simp [capMax]; omega, ?_⟩ | refine ⟨⟨by omega, by omega⟩, ?_⟩)
      have hlt : ∀ y, y < (upsOf g (k - d)).length → (nth (upsOf g (k - d)) y).toNat < k - d := fun y hy => by have := hu _ t3 y hy; omega
      refine AWh_loop (fun j : Nat => j ≤ (upsOf g (k - d)).length) (fun j => mkE [(2, .box 128 0), (5, .arr 768), (6, .arr 1024), (7, .c (.int .i64 (k - d))), (36, .c (.im (upsOf g (k - d)).length (flat (upsOf g (k - d))))), (37, .c (.int .i64 (upsOf g (k - d)).length)), (38, .c (.int .i64 j))] [(128, .box [.c (.im g.commits.length (flat g.commits)), .c (.int .i64 g.head)]), (768, .arr 0 4 1 (k + 1) (flat (setK (runM g (startM (k + 1) k) (k + 1) d) (upsOf g (k - d)) j))), (1024, .arr 0 3 1 ((markD (marks g k) (k + 1) d).length + 1) (flat (markD (marks g k) (k + 1) d ++ [((k - d : Nat) : Int)])))]) (fun j => (upsOf g (k - d)).length - j) 0 (Wk_to [2, 5, 6, 7, 36, 37, 38] [(128, 128), (768, 768), (1024, 1920)] rfl rfl (by simp [setK, upsOf, Int.ofNat_sub g1])) (by simp) ?_
      rintro j hj
      have hsl := setK_len (runM g (startM (k + 1) k) (k + 1) d) (upsOf g (k - d)) j
      rw [hrl] at hsl
      have hne2 : ¬ setK (runM g (startM (k + 1) k) (k + 1) d) (upsOf g (k - d)) j = [] := by intro e; rw [e] at hsl; simp at hsl
      refine AW_of h107 TryzT_ok (by kernel_rfl) ?_
      rcases Nat.lt_or_ge j (upsOf g (k - d)).length with p1 | p1
      · have hb := hu _ t3 j p1
        have b1 : (nth (upsOf g (k - d)) j).toNat < k + 1 := by omega
        have b2 : 0 ≤ nth (upsOf g (k - d)) j := hb.1
        have b3 : nth (upsOf g (k - d)) j < (k : Int) + 1 := by omega
        simp -dsimp [p1, ne_of_lt p1, b1, b2, b3, hsl, hne2]
        repeat (first | refine ⟨by omega, ?_⟩ | refine ⟨by simp [capMax]; omega, ?_⟩ | refine ⟨⟨by omega, by omega⟩, ?_⟩)
        exact Back_of (j + 1) [2, 5, 6, 7, 36, 37, 38] [(128, 128), (768, 768), (1024, 1024)] rfl rfl (by simp [setK]; rw [wrap64 (by omega) (by omega)]) (by omega) (by omega)
      · obtain rfl : j = (upsOf g (k - d)).length := by omega
        simp -dsimp
        exact Back_of (d + 1) [2, 5, 6, 7] [(128, 128), (768, 768), (1024, 1024)] rfl rfl (by simp [runM, markD, stepU, hz, q, qm, wm]) (by omega) (by omega)
  · obtain rfl : d = k + 1 := by omega
    have g1 : ¬ (k : Int) + 1 ≤ k := by omega
    simp -dsimp [g1]
    refine ACallW_args (by intro us; simp -dsimp; exact ⟨rfl, rfl, rfl⟩) ?_
    refine ACallC_of (fun us => f197_ok (markD (marks g k) (k + 1) (k + 1)) (by omega)) (by intro us; simp -dsimp; exact ⟨rfl, rfl⟩) ?_
    have he : (markD (marks g k) (k + 1) (k + 1)).reverse = upsL g k := markD_eq _ _
    have hle : (markD (marks g k) (k + 1) (k + 1)).length = (upsL g k).length := by rw [← he, List.length_reverse]
    simp -dsimp [he, hle]

@[simp] def h100 : Hts := { merge := fun _ => false, mergeF := fun _ => false }
set_option maxHeartbeats 4000000 in
theorem f100_ok (g : GGraph) (hu : upsLt g) (hg : g.commits.length ≤ 1073741824) (hl : ∀ y, y ∈ g.commits → y.ups.length ≤ 1073741824) (k : Nat) (hk : k < g.commits.length) : FnR Tryz.prog 100 [.agg [.im g.commits.length (flat g.commits), .int .i64 g.head], .v (.int .i64 k)] (.v (.ow 4 1 (marksS g k).length (flat (marksS g k)))) := by
  refine FnW.of_AW TryzT_ok 0 (fn := Tryz.f100) (by kernel_rfl) rfl (by kernel_rfl) rfl rfl rfl ?_; refine AW_of h100 TryzT_ok (by kernel_rfl) ?_
  have w0 : IntKind.i64.wrap ((g.commits.length : Int) - 1) = g.commits.length - 1 := wrap64 (by omega) (by omega)
  have hn0 : ¬ g.commits = [] := ne_of_lt hk
  simp -dsimp [w0, hk, hn0]
  repeat (first | refine ⟨by omega, ?_⟩ | refine ⟨by simp [capMax]; omega, ?_⟩ | refine ⟨⟨by omega, by omega⟩, ?_⟩)
  refine AWh_loop (fun d : Nat => d ≤ g.commits.length) (fun d => mkE [(2, .box 128 0), (5, .arr 704), (6, .c (.int .i64 (g.commits.length - 1 - d)))] [(128, .box [.c (.im g.commits.length (flat g.commits)), .c (.int .i64 g.head)]), (704, .arr 0 4 1 g.commits.length (flat (runM g (startM g.commits.length k) g.commits.length d)))]) (fun d => g.commits.length - d) 0 (Wk_to [2, 5, 6] [(128, 128), (704, 704)] rfl rfl (by simp [startM, runM])) (by simp) ?_
  rintro d hd
  have hrl := runM_len g (startM g.commits.length k) g.commits.length d
  rw [startM_len] at hrl
  refine AW_of h100 TryzT_ok (by kernel_rfl) ?_
  rcases Nat.lt_or_ge d g.commits.length with h1 | h1
  · have g1 : (d : Int) ≤ g.commits.length - 1 := by omega
    have t1 : ((g.commits.length : Int) - 1 - d).toNat = g.commits.length - 1 - d := by omega
    have t3 : g.commits.length - 1 - d < g.commits.length := by omega
    have hup := hl _ (nth_mem t3)
    have hup2 : (upsOf g (g.commits.length - 1 - d)).length ≤ 1073741824 := hup
    have wm : IntKind.i64.wrap ((g.commits.length : Int) - 1 - d - 1) = g.commits.length - 1 - (d + 1) := by rw [wrap64 (by omega) (by omega)]; omega
    have hlt : ∀ y, y < (upsOf g (g.commits.length - 1 - d)).length → (nth (upsOf g (g.commits.length - 1 - d)) y).toNat < g.commits.length - 1 - d := fun y hy => by have := hu _ t3 y hy; omega
    simp -dsimp [g1]
    refine AWh_loop (fun j : Nat => j ≤ (upsOf g (g.commits.length - 1 - d)).length ∧ (0 < j → nth (runM g (startM g.commits.length k) g.commits.length d) (g.commits.length - 1 - d) = true)) (fun j => mkE [(2, .box 128 0), (5, .arr 704), (6, .c (.int .i64 (g.commits.length - 1 - d))), (7, .c (.int .i64 j))] [(128, .box [.c (.im g.commits.length (flat g.commits)), .c (.int .i64 g.head)]), (704, .arr 0 4 1 g.commits.length (flat (setK (runM g (startM g.commits.length k) g.commits.length d) (upsOf g (g.commits.length - 1 - d)) j)))]) (fun j => (upsOf g (g.commits.length - 1 - d)).length - j) 0 (Wk_to [2, 5, 6, 7] [(128, 128), (704, 704)] rfl rfl (by simp [setK])) (by simp) ?_
    rintro j ⟨hj, hjt⟩
    have hsl := setK_len (runM g (startM g.commits.length k) g.commits.length d) (upsOf g (g.commits.length - 1 - d)) j
    rw [hrl] at hsl
    have hkeep := setK_keep (runM g (startM g.commits.length k) g.commits.length d) j (fun y hy => hlt y (by omega)) (g.commits.length - 1 - d) (Nat.le_refl _)
    have hne2 : ¬ setK (runM g (startM g.commits.length k) g.commits.length d) (upsOf g (g.commits.length - 1 - d)) j = [] := by intro e; rw [e] at hsl; simp at hsl; omega
    refine AW_of h100 TryzT_ok (by kernel_rfl) ?_
    rcases Nat.lt_or_ge j (upsOf g (g.commits.length - 1 - d)).length with p1 | p1
    · have p1' : j < (nth g.commits (g.commits.length - 1 - d)).ups.length := p1
      cases q : nth (runM g (startM g.commits.length k) g.commits.length d) (g.commits.length - 1 - d)
      · rw [q] at hkeep
        simp -dsimp [t1, t3, ne_of_lt t3, p1', ne_of_lt p1', hsl, hne2, hkeep, g1]
        repeat (first | refine ⟨by omega, ?_⟩ | refine ⟨by simp [capMax]; omega, ?_⟩ | refine ⟨⟨by omega, by omega⟩, ?_⟩)
        obtain rfl : j = 0 := by
          rcases Nat.eq_zero_or_pos j with h | h
          · exact h
          · rw [hjt h] at q; cases q
        exact Back_of (d + 1) [2, 5, 6] [(128, 128), (704, 704)] rfl rfl (by simp [runM, stepU, setK, q, wm]) (by omega) (by omega)
      · rw [q] at hkeep
        have hb := hu _ t3 j p1
        have b1 : (nth (upsOf g (g.commits.length - 1 - d)) j).toNat < g.commits.length := by omega
        have b2 : 0 ≤ nth (upsOf g (g.commits.length - 1 - d)) j := hb.1
        have b3 : nth (upsOf g (g.commits.length - 1 - d)) j < (g.commits.length : Int) := by omega
        have eu : (nth g.commits (g.commits.length - 1 - d)).ups = upsOf g (g.commits.length - 1 - d) := rfl
        simp -dsimp [t1, t3, ne_of_lt t3, eu, p1, ne_of_lt p1, hsl, hne2, hkeep, g1, b1, b2, b3]
        repeat (first | refine ⟨by omega, ?_⟩ | refine ⟨by simp [capMax]; omega, ?_⟩ | refine ⟨⟨by omega, by omega⟩, ?_⟩)
        exact Back_of (j + 1) [2, 5, 6, 7] [(128, 128), (704, 704)] rfl rfl (by simp [setK]; rw [wrap64 (by omega) (by omega)]) ⟨by omega, fun _ => rfl⟩ (by omega)
    · have p1' : ¬ j < (nth g.commits (g.commits.length - 1 - d)).ups.length := by have : (upsOf g (g.commits.length - 1 - d)).length = (nth g.commits (g.commits.length - 1 - d)).ups.length := rfl; omega
      simp -dsimp [t1, t3, ne_of_lt t3, p1', hsl, hne2, g1]
      repeat (first | refine ⟨by omega, ?_⟩ | refine ⟨by simp [capMax]; omega, ?_⟩ | refine ⟨⟨by omega, by omega⟩, ?_⟩)
      obtain rfl : j = (upsOf g (g.commits.length - 1 - d)).length := by omega
      refine Back_of (d + 1) [2, 5, 6] [(128, 128), (704, 704)] rfl rfl (by
        simp [runM, stepU, setK, wm]
        cases q : nth (runM g (startM g.commits.length k) g.commits.length d) (g.commits.length - 1 - d)
        · rcases Nat.eq_zero_or_pos (upsOf g (g.commits.length - 1 - d)).length with h | h
          · simp [h, setK]
          · rw [hjt h] at q; cases q
        · simp) (by omega) (by omega)
  · obtain rfl : d = g.commits.length := by omega
    have g1 : ¬ (g.commits.length : Int) ≤ g.commits.length - 1 := by omega
    simp -dsimp [g1]
    simp [marksS]

@[simp] def h99 : Hts := { merge := fun _ => false, mergeF := fun _ => false }
set_option maxHeartbeats 4000000 in
theorem f99_ok (m : List Bool) (hm : m.length ≤ 1073741824) : FnR Tryz.prog 99 [.v (.im m.length (flat m))] (.v (.ow 3 1 (markK m m.length).length (flat (markK m m.length)))) := by
  refine FnW.of_AW TryzT_ok 0 (fn := Tryz.f99) (by kernel_rfl) rfl (by kernel_rfl) rfl rfl rfl ?_; refine AW_of h99 TryzT_ok (by kernel_rfl) ?_
  simp -dsimp
  refine AWh_loop (fun i : Nat => i ≤ m.length) (fun i => mkE [(0, .c (.im m.length (flat m))), (3, .arr 320), (4, .c (.int .i64 i))] [(320, .arr 0 3 1 (markK m i).length (flat (markK m i)))]) (fun i => m.length - i) 0 (Wk_to [0, 3, 4] [(320, 320)] rfl rfl (by simp [markK])) (by simp) ?_
  rintro i hi
  have hml := markK_len m i
  refine AW_of h99 TryzT_ok (by kernel_rfl) ?_
  rcases Nat.lt_or_ge i m.length with h1 | h1
  · cases q : nth m i
    · simp -dsimp [h1, ne_of_lt h1, q]
      exact Back_of (i + 1) [0, 3, 4] [(320, 320)] rfl rfl (by simp [markK, q]; rw [wrap64 (by omega) (by omega)]) (by omega) (by omega)
    · simp -dsimp [h1, ne_of_lt h1, q]
      repeat (first | refine ⟨by omega, ?_⟩ | refine ⟨by simp [capMax]; omega, ?_⟩ | refine ⟨⟨by omega, by omega⟩, ?_⟩)
      exact Back_of (i + 1) [0, 3, 4] [(320, 1216)] rfl rfl (by simp [markK, q]; rw [wrap64 (by omega) (by omega)]) (by omega) (by omega)
  · obtain rfl : i = m.length := by omega
    simp -dsimp

def upsR (g : GGraph) (k : Int) : List Int := if spIn k 0 (g.commits.length - 1) && graphOk g then upsL g k.toNat else []
end Am
namespace Am
open Go Go.Proofs
open Cel (cells)
set_option maxRecDepth 100000
set_option linter.unusedSimpArgs false
set_option linter.unusedVariables false

/-- The places below i that fit, in order. -/
def markF (p : Nat → Bool) : Nat → List Int
  | 0 => []
  | i + 1 => if p i then markF p i ++ [(i : Int)] else markF p i
theorem markK_F (m : List Bool) : ∀ n, markK m n = markF (nth m) n
  | 0 => rfl
  | n + 1 => by rw [markK, markF, markK_F m n]
theorem markF_ext {p q : Nat → Bool} : ∀ n : Nat, (∀ i, i < n → p i = q i) → markF p n = markF q n
  | 0, _ => rfl
  | n + 1, h => by rw [markF, markF, markF_ext n (fun i hi => h i (by omega)), h n (by omega)]
theorem markF_mem {p : Nat → Bool} {y : Int} : ∀ {n : Nat}, y ∈ markF p n ↔ ∃ i : Nat, i < n ∧ p i = true ∧ y = i
  | 0 => by simp [markF]
  | n + 1 => by
    have ih := markF_mem (p := p) (y := y) (n := n)
    rw [markF]
    constructor
    · intro h
      have : y ∈ markF p n ∨ (p n = true ∧ y = n) := by
        split at h
        · rename_i hp
          rcases List.mem_append.1 h with h | h
          · exact Or.inl h
          · right; exact ⟨hp, by simpa using h⟩
        · exact Or.inl h
      rcases this with h | h
      · obtain ⟨i, h1, h2, h3⟩ := ih.1 h
        exact ⟨i, by omega, h2, h3⟩
      · exact ⟨n, by omega, h⟩
    · rintro ⟨i, h1, h2, h3⟩
      by_cases e : i = n
      · subst e; rw [if_pos h2]; simp [h3]
      · have := ih.2 ⟨i, by omega, h2, h3⟩
        split
        · simp [this]
        · exact this
theorem markF_filter (p : Nat → Bool) (q : Int → Bool) : ∀ n, (markF p n).filter q = markF (fun i => p i && q i) n
  | 0 => rfl
  | n + 1 => by
    rw [markF, markF]
    cases hp : p n
    · simp [markF_filter p q n]
    · cases hq : q n <;> simp [markF_filter p q n, hq]
theorem markF_len (p : Nat → Bool) : ∀ n, (markF p n).length ≤ n
  | 0 => Nat.le_refl _
  | n + 1 => by
    have := markF_len p n
    rw [markF]; split
    · simp; omega
    · omega

theorem upsL_mem {g : GGraph} (hu : upsLt g) {k : Nat} (h : k < g.commits.length) (x : Nat) : hasX (upsL g k) (x : Int) = (decide (x < g.commits.length) && nth (marksS g k) x) := by
  rw [Bool.eq_iff_iff, ← upsL_S hu h, markK_F]
  simp only [hasX, decide_eq_true_eq, Bool.and_eq_true]
  rw [markF_mem]
  constructor
  · rintro ⟨i, h1, h2, h3⟩
    have : x = i := by omega
    subst this; exact ⟨h1, h2⟩
  · rintro ⟨h1, h2⟩
    exact ⟨x, h1, h2, rfl⟩
theorem marksS_le {g : GGraph} (hu : upsLt g) {k : Nat} (h : k < g.commits.length) {x : Nat} (hx : nth (marksS g k) x = true) : x ≤ k := by
  rcases Nat.lt_or_ge k x with h1 | h1
  · rw [marksS_eq hu h, nth_append_right (by simp; omega), nth_false] at hx; cases hx
  · exact h1

/-- Both are behind it. -/
def bothU (g : GGraph) (a b : Nat) (i : Nat) : Bool := nth (marksS g a) i && nth (marksS g b) i
def bothL (g : GGraph) (a b : Nat) : List Bool := tab g.commits.length (bothU g a b)
/-- Those marked are struck out, up to k. -/
def clrK (m b : List Bool) : Nat → List Bool
  | 0 => m
  | k + 1 => if nth b k then (clrK m b k).set k false else clrK m b k
def topK (g : GGraph) (bs : List Bool) : Nat → List Bool
  | 0 => bs
  | i + 1 => if nth bs i then clrK (topK g bs i) (marksS g i) i else topK g bs i
@[simp] theorem clrK_len (m b : List Bool) : ∀ k, (clrK m b k).length = m.length
  | 0 => rfl
  | k + 1 => by rw [clrK]; split <;> simp [clrK_len m b k]
@[simp] theorem topK_len (g : GGraph) (bs : List Bool) : ∀ k, (topK g bs k).length = bs.length
  | 0 => rfl
  | k + 1 => by rw [topK]; split <;> simp [topK_len g bs k]
theorem clrK_get (m b : List Bool) (x : Nat) : ∀ k, nth (clrK m b k) x = (nth m x && !(decide (x < k) && nth b x))
  | 0 => by simp [clrK]
  | k + 1 => by
    rw [clrK]
    split
    · rename_i hb
      rw [nth_set, clrK_len, clrK_get m b x k]
      by_cases e : x = k
      · subst e
        by_cases h : x < m.length
        · simp [h, hb]
        · have : nth m x = false := nth_out (by omega)
          simp [h, this]
      · rw [if_neg (by omega)]
        have : decide (x < k + 1) = decide (x < k) := by rw [decide_eq_decide]; omega
        rw [this]
    · rename_i hb
      rw [clrK_get m b x k]
      by_cases e : x = k
      · subst e; simp [hb]
      · have : decide (x < k + 1) = decide (x < k) := by rw [decide_eq_decide]; omega
        rw [this]
theorem topK_get (g : GGraph) (bs : List Bool) (x : Nat) : ∀ i, nth (topK g bs i) x = (nth bs x && allB (fun j => !(nth bs j && decide (x < j) && nth (marksS g j) x)) i)
  | 0 => by simp [topK, allB]
  | i + 1 => by
    rw [topK, allB]
    split
    · rename_i hb
      rw [clrK_get, topK_get g bs x i]
      simp [hb, Bool.and_assoc]
    · rename_i hb
      rw [topK_get g bs x i]
      simp [hb]
/-- Where they join. -/
def joinP (g : GGraph) (a b : Nat) (x : Nat) : Bool := bothU g a b x && allB (fun j => !(bothU g a b j && decide (x < j) && nth (marksS g j) x)) g.commits.length
def joinL (g : GGraph) (a b : Nat) : List Int := markF (joinP g a b) g.commits.length
theorem joinL_S (g : GGraph) (a b : Nat) : markK (topK g (bothL g a b) g.commits.length) g.commits.length = joinL g a b := by
  rw [markK_F]
  apply markF_ext
  intro i hi
  rw [topK_get, joinP]
  congr 1
  · exact nth_tab _ hi
  · rw [Bool.eq_iff_iff, allB_iff, allB_iff]
    constructor
    · intro h j hj; rw [← h j hj, bothL, nth_tab _ hj]
    · intro h j hj; rw [← h j hj, bothL, nth_tab _ hj]

/-- Those of the one that the other has. -/
def inBoth (g : GGraph) (a b : Nat) : List Int := filK (fun o => hasX (upsL g b) o) [] (upsL g a) (upsL g a).length
theorem inBoth_eq {g : GGraph} (hu : upsLt g) {a b : Nat} (ha : a < g.commits.length) (hb : b < g.commits.length) : inBoth g a b = markF (bothU g a b) g.commits.length := by
  unfold inBoth
  rw [filK_filter _ _ _ (Nat.le_refl _), List.take_length, ← upsL_S hu ha, markK_F, markF_filter]
  apply markF_ext
  intro i hi
  rw [upsL_mem hu hb]
  simp [hi, bothU]
/-- Another of these is in front of it. -/
def offP (g : GGraph) (l : List Int) (k : Int) (j : Nat) : Bool := !(!decide (nth l j = k) && hasX (upsL g (nth l j).toNat) k)
def goodP (g : GGraph) (l : List Int) (k : Int) : Bool := allB (offP g l k) l.length
theorem joinL_M {g : GGraph} (hu : upsLt g) {a b : Nat} (ha : a < g.commits.length) (hb : b < g.commits.length) : filK (goodP g (inBoth g a b)) [] (inBoth g a b) (inBoth g a b).length = joinL g a b := by
  rw [filK_filter _ _ _ (Nat.le_refl _), List.take_length, inBoth_eq hu ha hb, markF_filter]
  apply markF_ext
  intro i hi
  rw [joinP]
  cases hbi : bothU g a b i
  · rfl
  rw [Bool.true_and, Bool.true_and, Bool.eq_iff_iff, goodP, allB_iff, allB_iff]
  constructor
  · intro h j hj
    cases hbj : bothU g a b j
    · rfl
    rcases Nat.lt_or_ge i j with h1 | h1
    · have hm : (j : Int) ∈ markF (bothU g a b) g.commits.length := markF_mem.2 ⟨j, hj, hbj, rfl⟩
      obtain ⟨x, hx, ex⟩ := List.mem_iff_getElem.1 hm
      have := h x hx
      rw [offP, nth_eq hx, ex, Int.toNat_natCast, upsL_mem hu hj] at this
      have e1 : decide ((j : Int) = (i : Int)) = false := by rw [decide_eq_false_iff_not]; omega
      simpa [e1, hi, h1] using this
    · have e1 : decide (i < j) = false := by rw [decide_eq_false_iff_not]; omega
      simp [e1]
  · intro h x hx
    have hm := nth_mem hx
    obtain ⟨j, hj, hbj, ej⟩ := markF_mem.1 hm
    rw [offP, ej, Int.toNat_natCast, upsL_mem hu hj]
    have := h j hj
    rw [hbj] at this
    cases hmm : nth (marksS g j) i
    · simp
    · have hle := marksS_le hu hj hmm
      rw [hmm] at this
      have e2 : ¬ i < j := by simpa using this
      have : i = j := by omega
      subst this
      simp

def jointsR (g : GGraph) (a b : Int) : List Int := if spIn a 0 (g.commits.length - 1) && spIn b 0 (g.commits.length - 1) && graphOk g then joinL g a.toNat b.toNat else []
theorem upsL_len (g : GGraph) (k : Nat) : (upsL g k).length ≤ k + 1 := markK_len _ _
theorem inBoth_len (g : GGraph) (a b : Nat) : (inBoth g a b).length ≤ a + 1 := by
  have := filK_len (fun o => hasX (upsL g b) o) [] (upsL g a) (upsL g a).length
  have := upsL_len g a
  unfold inBoth
  simp only [List.length_nil] at *
  omega
theorem inBoth_at {g : GGraph} (hu : upsLt g) {a b : Nat} (ha : a < g.commits.length) (hb : b < g.commits.length) {j : Nat} (h : j < (inBoth g a b).length) : ∃ o : Nat, o < g.commits.length ∧ nth (inBoth g a b) j = o := by
  have hm := nth_mem h
  rw [inBoth_eq hu ha hb] at hm
  obtain ⟨o, h1, _, h2⟩ := markF_mem.1 hm
  rw [inBoth_eq hu ha hb]
  exact ⟨o, h1, h2⟩

@[simp] def h81 : Hts := { merge := fun _ => false, mergeF := fun _ => false }
set_option maxHeartbeats 4000000 in
theorem f81_ok (g : GGraph) (hg : g.Ok) (a b : Int) : FnR Tryz.prog 81 [.agg [.im g.commits.length (flat g.commits), .int .i64 g.head], .v (.int .i64 a), .v (.int .i64 b)] (.v (.ow 3 1 (jointsR g a b).length (flat (jointsR g a b)))) := by
  have hgo := hg
  simp only [GGraph.Ok] at hg
  have hl : ∀ y, y ∈ g.commits → y.ups.length ≤ 1073741824 := fun y hy => by have := hg.2 y hy; simp only [GCommit.Ok] at this; exact this.1
  refine FnW.of_AW TryzT_ok 0 (fn := Tryz.f81) (by kernel_rfl) rfl (by kernel_rfl) rfl rfl rfl ?_; refine AW_of h81 TryzT_ok (by kernel_rfl) ?_
  simp -dsimp
  refine ACallK_of (f105_ok _ _ hg.1) ?_
  cases q1 : spIn a 0 (g.commits.length - 1)
  · simp -dsimp
    simp [jointsR, q1]
  simp -dsimp
  refine ACallK_of (f105_ok _ _ hg.1) ?_
  cases q2 : spIn b 0 (g.commits.length - 1)
  · simp -dsimp
    simp [jointsR, q2]
  simp -dsimp
  refine ACallK_of (f104_ok _ hgo) ?_
  cases q3 : graphOk g
  · simp -dsimp
    simp [jointsR, q3]
  have hk := q1
  simp only [spIn, Bool.and_eq_true, decide_eq_true_eq] at hk
  obtain ⟨n, rfl⟩ : ∃ n : Nat, a = n := ⟨a.toNat, by omega⟩
  have hk2 := q2
  simp only [spIn, Bool.and_eq_true, decide_eq_true_eq] at hk2
  obtain ⟨m, rfl⟩ : ∃ n : Nat, b = n := ⟨b.toNat, by omega⟩
  have hu := graphOk_ups q3
  have hn : n < g.commits.length := by omega
  have hm : m < g.commits.length := by omega
  have ln := upsL_len g n
  have lm := upsL_len g m
  simp -dsimp
  refine ACallK_of (f107_ok _ hu hg.1 hl m hm) ?_
  simp -dsimp
  refine ACallK_of (f107_ok _ hu hg.1 hl n hn) ?_
  simp -dsimp
  refine AWh_loop (fun i : Nat => i ≤ (upsL g n).length) (fun i => mkE [(3, .box 192 0), (7, .arr 1088), (8, .arr 2304), (9, .arr 2368), (40, .arr 2560), (41, .c (.int .i64 (upsL g n).length)), (42, .c (.int .i64 i))] [(192, .box [.c (.im g.commits.length (flat g.commits)), .c (.int .i64 g.head)]), (1088, .arr 0 3 1 0 []), (2304, .arr 0 3 1 (upsL g m).length (flat (upsL g m))), (2368, .arr 0 3 1 (filK (fun o => hasX (upsL g m) o) [] (upsL g n) i).length (flat (filK (fun o => hasX (upsL g m) o) [] (upsL g n) i))), (2560, .arr 0 3 1 (upsL g n).length (flat (upsL g n)))]) (fun i => (upsL g n).length - i) 0 (Wk_to [3, 7, 8, 9, 40, 41, 42] [(192, 192), (1088, 1088), (2304, 2304), (2368, 2368), (2560, 2560)] rfl rfl (by simp [filK])) (by simp) ?_
  rintro i hi
  have hfl := filK_len (fun o => hasX (upsL g m) o) [] (upsL g n) i
  simp only [List.length_nil] at hfl
  refine AW_of h81 TryzT_ok (by kernel_rfl) ?_
  rcases Nat.lt_or_ge i (upsL g n).length with h1 | h1
  · simp -dsimp [h1, ne_of_lt h1]
    repeat (first | refine ⟨by omega, ?_⟩ | refine ⟨by simp [capMax]; omega, ?_⟩ | refine ⟨⟨by omega, by omega⟩, ?_⟩)
    refine ACallK_of (f179_ok _ _ (by omega)) ?_
    cases q : hasX (upsL g m) (nth (upsL g n) i)
    · have hs : filK (fun o => hasX (upsL g m) o) [] (upsL g n) (i + 1) = filK (fun o => hasX (upsL g m) o) [] (upsL g n) i := by simp [filK, q]
      simp -dsimp
      exact Back_of (i + 1) [3, 7, 8, 9, 40, 41, 42] [(192, 192), (1088, 1088), (2304, 2304), (2368, 2368), (2560, 2560)] rfl rfl (by simp [hs]; rw [wrap64 (by omega) (by omega)]) (by omega) (by omega)
    · have hs : filK (fun o => hasX (upsL g m) o) [] (upsL g n) (i + 1) = filK (fun o => hasX (upsL g m) o) [] (upsL g n) i ++ [nth (upsL g n) i] := by simp [filK, q]
      simp -dsimp
      repeat (first | refine ⟨by omega, ?_⟩ | refine ⟨by simp [capMax]; omega, ?_⟩ | refine ⟨⟨by omega, by omega⟩, ?_⟩)
      exact Back_of (i + 1) [3, 7, 8, 9, 40, 41, 42] [(192, 192), (1088, 1088), (2304, 2304), (2368, 3328), (2560, 2560)] rfl rfl (by simp [hs]; rw [wrap64 (by omega) (by omega)]) (by omega) (by omega)
  obtain rfl : i = (upsL g n).length := by omega
  have hbl := inBoth_len g n m
  simp -dsimp
  refine AWh_loop (fun i : Nat => i ≤ (inBoth g n m).length) (fun i => mkE [(3, .box 192 0), (7, .arr 1088), (9, .arr 2368), (54, .arr 2368), (55, .c (.int .i64 (inBoth g n m).length)), (56, .c (.int .i64 i))] [(192, .box [.c (.im g.commits.length (flat g.commits)), .c (.int .i64 g.head)]), (1088, .arr 0 3 1 (filK (goodP g (inBoth g n m)) [] (inBoth g n m) i).length (flat (filK (goodP g (inBoth g n m)) [] (inBoth g n m) i))), (2368, .arr 0 3 1 (inBoth g n m).length (flat (inBoth g n m)))]) (fun i => (inBoth g n m).length - i) 0 (Wk_to [3, 7, 9, 54, 55, 56] [(192, 192), (1088, 1088), (2368, 2368)] rfl rfl (by simp [filK, inBoth])) (by simp) ?_
  clear hfl hi h1
  rintro i hi
  have hfl := filK_len (goodP g (inBoth g n m)) [] (inBoth g n m) i
  simp only [List.length_nil] at hfl
  refine AW_of h81 TryzT_ok (by kernel_rfl) ?_
  rcases Nat.lt_or_ge i (inBoth g n m).length with h1 | h1
  · simp -dsimp [h1, ne_of_lt h1]
    refine AWh_loop (fun j : Nat => j ≤ (inBoth g n m).length) (fun j => mkE [(3, .box 192 0), (7, .arr 1088), (9, .arr 2368), (13, .c (.int .i64 (nth (inBoth g n m) i))), (14, .c (.bool (!allB (offP g (inBoth g n m) (nth (inBoth g n m) i)) j))), (54, .arr 2368), (55, .c (.int .i64 (inBoth g n m).length)), (56, .c (.int .i64 i)), (60, .arr 2368), (61, .c (.int .i64 (inBoth g n m).length)), (62, .c (.int .i64 j))] [(192, .box [.c (.im g.commits.length (flat g.commits)), .c (.int .i64 g.head)]), (1088, .arr 0 3 1 (filK (goodP g (inBoth g n m)) [] (inBoth g n m) i).length (flat (filK (goodP g (inBoth g n m)) [] (inBoth g n m) i))), (2368, .arr 0 3 1 (inBoth g n m).length (flat (inBoth g n m)))]) (fun j => (inBoth g n m).length - j) 0 (Wk_to [3, 7, 9, 13, 14, 54, 55, 56, 60, 61, 62] [(192, 192), (1088, 1088), (2368, 2368)] rfl rfl (by simp [allB])) (by simp) ?_
    rintro j hj
    refine AW_of h81 TryzT_ok (by kernel_rfl) ?_
    rcases Nat.lt_or_ge j (inBoth g n m).length with p1 | p1
    · obtain ⟨o, ho, eo⟩ := inBoth_at hu hn hm p1
      have lo := upsL_len g o
      by_cases e : nth (inBoth g n m) j = nth (inBoth g n m) i
      · have b1 : (nth (inBoth g n m) j != nth (inBoth g n m) i) = false := by simp [e]
        have hof : offP g (inBoth g n m) (nth (inBoth g n m) i) j = true := by simp [offP, e]
        simp -dsimp [p1, ne_of_lt p1, b1]
        repeat (first | refine ⟨by omega, ?_⟩ | refine ⟨by simp [capMax]; omega, ?_⟩ | refine ⟨⟨by omega, by omega⟩, ?_⟩)
        exact Back_of (j + 1) [3, 7, 9, 13, 14, 54, 55, 56, 60, 61, 62] [(192, 192), (1088, 1088), (2368, 2368)] rfl rfl (by simp [allB, hof]; rw [wrap64 (by omega) (by omega)]) (by omega) (by omega)
      · have b1 : (nth (inBoth g n m) j != nth (inBoth g n m) i) = true := by simp [e]
        have hof : offP g (inBoth g n m) (nth (inBoth g n m) i) j = !hasX (upsL g o) (nth (inBoth g n m) i) := by
          have e' : ¬ (o : Int) = nth (inBoth g n m) i := by rw [← eo]; exact e
          simp [offP, eo, e']
        have b2 : (((o : Int) != nth (inBoth g n m) i)) = true := by rw [← eo]; exact b1
        simp -dsimp [p1, ne_of_lt p1, eo, b2]
        repeat (first | refine ⟨by omega, ?_⟩ | refine ⟨by simp [capMax]; omega, ?_⟩ | refine ⟨⟨by omega, by omega⟩, ?_⟩)
        refine ACallK_of (f107_ok _ hu hg.1 hl o ho) ?_
        simp -dsimp
        refine ACallK_of (f179_ok _ _ (by omega)) ?_
        cases q : hasX (upsL g o) (nth (inBoth g n m) i)
        · rw [q] at hof
          simp -dsimp
          repeat (first | refine ⟨by omega, ?_⟩ | refine ⟨by simp [capMax]; omega, ?_⟩ | refine ⟨⟨by omega, by omega⟩, ?_⟩)
          exact Back_of (j + 1) [3, 7, 9, 13, 14, 54, 55, 56, 60, 61, 62] [(192, 192), (1088, 1088), (2368, 2368)] rfl rfl (by simp [allB, hof]; rw [wrap64 (by omega) (by omega)]) (by omega) (by omega)
        · rw [q] at hof
          simp -dsimp
          repeat (first | refine ⟨by omega, ?_⟩ | refine ⟨by simp [capMax]; omega, ?_⟩ | refine ⟨⟨by omega, by omega⟩, ?_⟩)
          exact Back_of (j + 1) [3, 7, 9, 13, 14, 54, 55, 56, 60, 61, 62] [(192, 192), (1088, 1088), (2368, 2368)] rfl rfl (by simp [allB, hof]; rw [wrap64 (by omega) (by omega)]) (by omega) (by omega)
    · obtain rfl : j = (inBoth g n m).length := by omega
      have hgo2 : allB (offP g (inBoth g n m) (nth (inBoth g n m) i)) (inBoth g n m).length = goodP g (inBoth g n m) (nth (inBoth g n m) i) := rfl
      cases q : goodP g (inBoth g n m) (nth (inBoth g n m) i)
      · have hs : filK (goodP g (inBoth g n m)) [] (inBoth g n m) (i + 1) = filK (goodP g (inBoth g n m)) [] (inBoth g n m) i := by simp [filK, q]
        rw [q] at hgo2
        simp -dsimp [hgo2]
        exact Back_of (i + 1) [3, 7, 9, 54, 55, 56] [(192, 192), (1088, 1088), (2368, 2368)] rfl rfl (by simp [hs]; rw [wrap64 (by omega) (by omega)]) (by omega) (by omega)
      · have hs : filK (goodP g (inBoth g n m)) [] (inBoth g n m) (i + 1) = filK (goodP g (inBoth g n m)) [] (inBoth g n m) i ++ [nth (inBoth g n m) i] := by simp [filK, q]
        rw [q] at hgo2
        simp -dsimp [hgo2]
        repeat (first | refine ⟨by omega, ?_⟩ | refine ⟨by simp [capMax]; omega, ?_⟩ | refine ⟨⟨by omega, by omega⟩, ?_⟩)
        exact Back_of (i + 1) [3, 7, 9, 54, 55, 56] [(192, 192), (1088, 5248), (2368, 2368)] rfl rfl (by simp [hs]; rw [wrap64 (by omega) (by omega)]) (by omega) (by omega)
  obtain rfl : i = (inBoth g n m).length := by omega
  simp -dsimp
  simp [jointsR, q1, q2, q3, joinL_M hu hn hm]

@[simp] def h77 : Hts := { merge := fun _ => false, mergeF := fun _ => false }
set_option maxHeartbeats 4000000 in
theorem f77_ok (g : GGraph) (hg : g.Ok) (a b : Int) : FnR Tryz.prog 77 [.agg [.im g.commits.length (flat g.commits), .int .i64 g.head], .v (.int .i64 a), .v (.int .i64 b)] (.v (.ow 3 1 (jointsR g a b).length (flat (jointsR g a b)))) := by
  have hgo := hg
  simp only [GGraph.Ok] at hg
  have hl : ∀ y, y ∈ g.commits → y.ups.length ≤ 1073741824 := fun y hy => by have := hg.2 y hy; simp only [GCommit.Ok] at this; exact this.1
  have w0 : IntKind.i64.wrap ((g.commits.length : Int) - 1) = g.commits.length - 1 := wrap64 (by omega) (by omega)
  refine FnW.of_AW TryzT_ok 0 (fn := Tryz.f77) (by kernel_rfl) rfl (by kernel_rfl) rfl rfl rfl ?_; refine AW_of h77 TryzT_ok (by kernel_rfl) ?_
  simp -dsimp
  refine ACallK_of (f98_ok _ hgo) ?_
  cases q3 : graphOk g
  · simp -dsimp
    simp [jointsR, q3]
  simp -dsimp [w0]
  refine ACallK_of (f86_ok _ _ _) ?_
  cases q1 : spIn a 0 (g.commits.length - 1)
  · simp -dsimp
    simp [jointsR, q1]
  simp -dsimp [w0]
  refine ACallK_of (f86_ok _ _ _) ?_
  cases q2 : spIn b 0 (g.commits.length - 1)
  · simp -dsimp
    simp [jointsR, q2]
  have hk := q1
  simp only [spIn, Bool.and_eq_true, decide_eq_true_eq] at hk
  obtain ⟨n, rfl⟩ : ∃ n : Nat, a = n := ⟨a.toNat, by omega⟩
  have hk2 := q2
  simp only [spIn, Bool.and_eq_true, decide_eq_true_eq] at hk2
  obtain ⟨m, rfl⟩ : ∃ n : Nat, b = n := ⟨b.toNat, by omega⟩
  have hu := graphOk_ups q3
  have hn : n < g.commits.length := by omega
  have hm : m < g.commits.length := by omega
  simp -dsimp
  refine ACallK_of (f100_ok _ hu hg.1 hl n hn) ?_
  simp -dsimp
  refine ACallK_of (f100_ok _ hu hg.1 hl m hm) ?_
  simp -dsimp
  repeat (first | refine ⟨by omega, ?_⟩ | refine ⟨by simp [capMax]; omega, ?_⟩ | refine ⟨⟨by omega, by omega⟩, ?_⟩)
  have bl : (bothL g n m).length = g.commits.length := by simp [bothL]
  refine AWh_loop (fun i : Nat => i ≤ g.commits.length) (fun i => mkE [(3, .box 192 0), (7, .arr 2496), (8, .arr 2688), (9, .arr 2880), (10, .c (.int .i64 i))] [(192, .box [.c (.im g.commits.length (flat g.commits)), .c (.int .i64 g.head)]), (2496, .arr 0 4 1 g.commits.length (flat (marksS g n))), (2688, .arr 0 4 1 g.commits.length (flat (marksS g m))), (2880, .arr 0 4 1 g.commits.length (flat ((bothL g n m).take i ++ List.replicate ((bothL g n m).length - i) false)))]) (fun i => g.commits.length - i) 0 (Wk_to [3, 7, 8, 9, 10] [(192, 192), (2496, 2496), (2688, 2688), (2880, 2880)] rfl rfl (by simp [bl])) (by simp) ?_
  rintro i hi
  have tl : ((bothL g n m).take i ++ List.replicate ((bothL g n m).length - i) false).length = g.commits.length := by simp [bl]; omega
  refine AW_of h77 TryzT_ok (by kernel_rfl) ?_
  rcases Nat.lt_or_ge i g.commits.length with h1 | h1
  · have n1 : ¬ marksS g n = [] := ne_of_lt (i := i) (by simpa using h1)
    have n2 : ¬ marksS g m = [] := ne_of_lt (i := i) (by simpa using h1)
    have hb : nth (bothL g n m) i = (nth (marksS g n) i && nth (marksS g m) i) := nth_tab _ h1
    have hf := fill_step (bothL g n m) false (i := i) (by rw [bl]; exact h1)
    rw [hb] at hf
    generalize (bothL g n m).take i ++ List.replicate ((bothL g n m).length - i) false = ys at tl hf ⊢
    have n3 : ¬ ys = [] := ne_of_lt (i := i) (by rw [tl]; exact h1)
    cases q : nth (marksS g n) i
    · rw [q] at hf
      simp only [Bool.false_and] at hf
      simp -dsimp [h1, n1, n2, n3, q, tl]
      repeat (first | refine ⟨by omega, ?_⟩ | refine ⟨by simp [capMax]; omega, ?_⟩ | refine ⟨⟨by omega, by omega⟩, ?_⟩)
      exact Back_of (i + 1) [3, 7, 8, 9, 10] [(192, 192), (2496, 2496), (2688, 2688), (2880, 2880)] rfl rfl (by rw [← hf]; simp; rw [wrap64 (by omega) (by omega)]) (by omega) (by omega)
    · rw [q] at hf
      simp only [Bool.true_and] at hf
      simp -dsimp [h1, n1, n2, n3, q, tl]
      repeat (first | refine ⟨by omega, ?_⟩ | refine ⟨by simp [capMax]; omega, ?_⟩ | refine ⟨⟨by omega, by omega⟩, ?_⟩)
      exact Back_of (i + 1) [3, 7, 8, 9, 10] [(192, 192), (2496, 2496), (2688, 2688), (2880, 2880)] rfl rfl (by rw [← hf]; simp; rw [wrap64 (by omega) (by omega)]) (by omega) (by omega)
  obtain rfl : i = g.commits.length := by omega
  have hte : (bothL g n m).take g.commits.length = bothL g n m := List.take_of_length_le (by omega)
  simp -dsimp
  repeat (first | refine ⟨by omega, ?_⟩ | refine ⟨by simp [capMax]; omega, ?_⟩ | refine ⟨⟨by omega, by omega⟩, ?_⟩)
  refine AWh_loop (fun i : Nat => i ≤ g.commits.length) (fun i => mkE [(3, .box 192 0), (7, .arr 2496), (9, .arr 2880), (11, .arr 4288), (12, .c (.int .i64 i))] [(192, .box [.c (.im g.commits.length (flat g.commits)), .c (.int .i64 g.head)]), (2496, .arr 0 4 1 g.commits.length (flat (marksS g n))), (2880, .arr 0 4 1 g.commits.length (flat (bothL g n m))), (4288, .arr 0 4 1 g.commits.length (flat (topK g (bothL g n m) i)))]) (fun i => g.commits.length - i) 0 (Wk_to [3, 7, 9, 11, 12] [(192, 192), (2496, 2496), (2880, 2880), (4288, 4288)] rfl rfl (by simp [topK, hte, bl])) (by simp) ?_
  clear tl hi h1 hte
  rintro i hi
  have tl := topK_len g (bothL g n m) i
  rw [bl] at tl
  refine AW_of h77 TryzT_ok (by kernel_rfl) ?_
  rcases Nat.lt_or_ge i g.commits.length with h1 | h1
  · have n1 : ¬ bothL g n m = [] := ne_of_lt (i := i) (by rw [bl]; exact h1)
    cases q : nth (bothL g n m) i
    · simp -dsimp [h1, n1, q, bl]
      repeat (first | refine ⟨by omega, ?_⟩ | refine ⟨by simp [capMax]; omega, ?_⟩ | refine ⟨⟨by omega, by omega⟩, ?_⟩)
      exact Back_of (i + 1) [3, 7, 9, 11, 12] [(192, 192), (2496, 2496), (2880, 2880), (4288, 4288)] rfl rfl (by simp [topK, q]; rw [wrap64 (by omega) (by omega)]) (by omega) (by omega)
    · simp -dsimp [h1, n1, q, bl]
      repeat (first | refine ⟨by omega, ?_⟩ | refine ⟨by simp [capMax]; omega, ?_⟩ | refine ⟨⟨by omega, by omega⟩, ?_⟩)
      refine ACallK_of (f100_ok _ hu hg.1 hl i h1) ?_
      simp -dsimp
      refine AWh_loop (fun k : Nat => k ≤ i) (fun k => mkE [(3, .box 192 0), (7, .arr 2496), (9, .arr 2880), (11, .arr 4288), (12, .c (.int .i64 i)), (13, .arr 5184), (14, .c (.int .i64 k))] [(192, .box [.c (.im g.commits.length (flat g.commits)), .c (.int .i64 g.head)]), (2496, .arr 0 4 1 g.commits.length (flat (marksS g n))), (2880, .arr 0 4 1 g.commits.length (flat (bothL g n m))), (4288, .arr 0 4 1 g.commits.length (flat (clrK (topK g (bothL g n m) i) (marksS g i) k))), (5184, .arr 0 4 1 g.commits.length (flat (marksS g i)))]) (fun k => i - k) 0 (Wk_to [3, 7, 9, 11, 12, 13, 14] [(192, 192), (2496, 2496), (2880, 2880), (4288, 4288), (5184, 5184)] rfl rfl (by simp [clrK])) (by simp) ?_
      rintro k hk3
      have cl := clrK_len (topK g (bothL g n m) i) (marksS g i) k
      rw [tl] at cl
      refine AW_of h77 TryzT_ok (by kernel_rfl) ?_
      rcases Nat.lt_or_ge k i with p1 | p1
      · have p2 : k < g.commits.length := by omega
        have n2 : ¬ marksS g i = [] := ne_of_lt (i := i) (by simpa using h1)
        have n3 : ¬ clrK (topK g (bothL g n m) i) (marksS g i) k = [] := ne_of_lt (i := i) (by rw [cl]; exact h1)
        cases qk : nth (marksS g i) k
        · simp -dsimp [p1, p2, n2, n3, qk, cl]
          repeat (first | refine ⟨by omega, ?_⟩ | refine ⟨by simp [capMax]; omega, ?_⟩ | refine ⟨⟨by omega, by omega⟩, ?_⟩)
          exact Back_of (k + 1) [3, 7, 9, 11, 12, 13, 14] [(192, 192), (2496, 2496), (2880, 2880), (4288, 4288), (5184, 5184)] rfl rfl (by simp [clrK, qk]; rw [wrap64 (by omega) (by omega)]) (by omega) (by omega)
        · simp -dsimp [p1, p2, n2, n3, qk, cl]
          repeat (first | refine ⟨by omega, ?_⟩ | refine ⟨by simp [capMax]; omega, ?_⟩ | refine ⟨⟨by omega, by omega⟩, ?_⟩)
          exact Back_of (k + 1) [3, 7, 9, 11, 12, 13, 14] [(192, 192), (2496, 2496), (2880, 2880), (4288, 4288), (5184, 5184)] rfl rfl (by simp [clrK, qk]; rw [wrap64 (by omega) (by omega)]) (by omega) (by omega)
      · obtain rfl : k = i := by omega
        simp -dsimp
        exact Back_of (k + 1) [3, 7, 9, 11, 12] [(192, 192), (2496, 2496), (2880, 2880), (4288, 4288)] rfl rfl (by simp [topK, q]; rw [wrap64 (by omega) (by omega)]) (by omega) (by omega)
  obtain rfl : i = g.commits.length := by omega
  have h2 := f99_ok (topK g (bothL g n m) g.commits.length) (by rw [tl]; exact hg.1)
  rw [tl, joinL_S] at h2
  simp -dsimp
  refine ACallK_of (h2) ?_
  simp -dsimp
  simp [jointsR, q1, q2, q3]
end Am
namespace Am
open Go Go.Proofs
open Cel (cells)
set_option maxRecDepth 100000
set_option linter.unusedSimpArgs false
set_option linter.unusedVariables false

def stateNew : GState := ⟨[0, 0, 0], [], [], []⟩
theorem stateNew_ok : stateNew.Ok := by simp [stateNew, GState.Ok]
theorem mergeState_okB {a b : GState} (ha : a.Ok) (hb : b.Ok) : (mergeState a b).Ok := by
  unfold mergeState
  split
  · rename_i h
    simp only [Bool.and_eq_true] at h
    split
    · exact mergeRaw_ok ha hb h.1 h.2
    · exact ha
  · exact ha
def baseK (g : GGraph) (l : List Int) : Nat → GState
  | 0 => stateNew
  | i + 1 => mergeState (baseK g l i) (nth g.commits (nth l i).toNat).state
def baseOf (g : GGraph) (a b : Int) : GState := baseK g (jointsR g a b) (jointsR g a b).length
theorem jointsR_at {g : GGraph} {a b : Int} {j : Nat} (h : j < (jointsR g a b).length) : ∃ o : Nat, o < g.commits.length ∧ nth (jointsR g a b) j = o := by
  have hm := nth_mem h
  generalize nth (jointsR g a b) j = y at hm ⊢
  unfold jointsR at hm
  split at hm
  · obtain ⟨o, h1, _, h2⟩ := markF_mem.1 hm
    exact ⟨o, h1, h2⟩
  · cases hm
theorem jointsR_lb (g : GGraph) (a b : Int) : (jointsR g a b).length ≤ g.commits.length := by
  unfold jointsR
  split
  · exact markF_len _ _
  · simp
theorem baseK_ok {g : GGraph} (hg : g.Ok) (l : List Int) : ∀ i, (∀ j : Nat, j < i → (nth l j).toNat < g.commits.length) → (baseK g l i).Ok
  | 0, _ => stateNew_ok
  | i + 1, h => by
    rw [baseK]
    simp only [GGraph.Ok] at hg
    have := hg.2 _ (nth_mem (h i (by omega)))
    simp only [GCommit.Ok] at this
    exact mergeState_okB (baseK_ok (by simp only [GGraph.Ok]; exact hg) l i (fun j hj => h j (by omega))) this.2
theorem baseOf_ok {g : GGraph} (hg : g.Ok) (a b : Int) : (baseOf g a b).Ok := baseK_ok hg _ _ (fun j hj => by obtain ⟨o, h1, h2⟩ := jointsR_at hj; omega)

@[simp] def h171 : Hts := {  }
theorem f171_ok : FnR Tryz.prog 171 [] (.v (.ow 3 1 (([0, 0, 0] : List Int)).length (flat (([0, 0, 0] : List Int))))) := by
  refine FnW.of_AW TryzT_ok 0 (fn := Tryz.f171) (by kernel_rfl) rfl (by kernel_rfl) rfl rfl rfl ?_; refine AW_of h171 TryzT_ok (by kernel_rfl) ?_
  simp -dsimp
  exact ⟨by decide, rfl⟩
@[simp] def h178 : Hts := {  }
theorem f178_ok : FnR Tryz.prog 178 [] (.v (.ow 3 1 (([0, 0, 0] : List Int)).length (flat (([0, 0, 0] : List Int))))) := by
  refine FnW.of_AW TryzT_ok 0 (fn := Tryz.f178) (by kernel_rfl) rfl (by kernel_rfl) rfl rfl rfl ?_; refine AW_of h178 TryzT_ok (by kernel_rfl) ?_
  simp -dsimp
  exact ⟨by decide, rfl⟩
@[simp] def h76 : Hts := {  }
theorem f76_ok : FnR Tryz.prog 76 [] (.agg [.ow 3 1 stateNew.know.length (flat stateNew.know), .ow 179 3 stateNew.tallies.length (flat stateNew.tallies), .ow 182 6 stateNew.lives.length (flat stateNew.lives), .ow 185 8 stateNew.cs.length (flat stateNew.cs)]) := by
  rw [stateNew]
  refine FnW.of_AW TryzT_ok 0 (fn := Tryz.f76) (by kernel_rfl) rfl (by kernel_rfl) rfl rfl rfl ?_; refine AW_of h76 TryzT_ok (by kernel_rfl) ?_
  simp -dsimp
  refine ACallK_of (f171_ok) ?_
  simp -dsimp
@[simp] def h80 : Hts := {  }
theorem f80_ok : FnR Tryz.prog 80 [] (.agg [.ow 3 1 stateNew.know.length (flat stateNew.know), .ow 179 3 stateNew.tallies.length (flat stateNew.tallies), .ow 182 6 stateNew.lives.length (flat stateNew.lives), .ow 185 8 stateNew.cs.length (flat stateNew.cs)]) := by
  rw [stateNew]
  refine FnW.of_AW TryzT_ok 0 (fn := Tryz.f80) (by kernel_rfl) rfl (by kernel_rfl) rfl rfl rfl ?_; refine AW_of h80 TryzT_ok (by kernel_rfl) ?_
  simp -dsimp
  refine ACallK_of (f178_ok) ?_
  simp -dsimp

@[simp] def h21 : Hts := { merge := fun _ => false, mergeF := fun _ => false, dr := fun id => if id = 6 then [{}, {}, {}, {}, {}, {}, {}, {}, {}, {}, { cr := true }, { wr := [448] }] else [] }
set_option maxHeartbeats 4000000 in
theorem f21_ok (g : GGraph) (hg : g.Ok) (a b : Int) : FnR Tryz.prog 21 [.agg [.im g.commits.length (flat g.commits), .int .i64 g.head], .v (.int .i64 a), .v (.int .i64 b)] (.agg [.ow 3 1 (baseOf g a b).know.length (flat (baseOf g a b).know), .ow 179 3 (baseOf g a b).tallies.length (flat (baseOf g a b).tallies), .ow 182 6 (baseOf g a b).lives.length (flat (baseOf g a b).lives), .ow 185 8 (baseOf g a b).cs.length (flat (baseOf g a b).cs)]) := by
  have hgo := hg
  simp only [GGraph.Ok] at hg
  have hcs : ∀ y, y ∈ g.commits → y.state.Ok := fun y hy => by have := hg.2 y hy; simp only [GCommit.Ok] at this; exact this.2
  have hjl := jointsR_lb g a b
  refine FnW.of_AW TryzT_ok 0 (fn := Tryz.f21) (by kernel_rfl) rfl (by kernel_rfl) rfl rfl rfl ?_; refine AW_of h21 TryzT_ok (by kernel_rfl) ?_
  simp -dsimp
  refine ACallK_of (f76_ok) ?_
  simp -dsimp
  refine ACallK_of (f77_ok _ hgo _ _) ?_
  simp -dsimp
  refine AWh_loop (fun i : Nat => i ≤ (jointsR g a b).length) (fun i => mkE [(3, .box 192 0), (6, .box 384 0), (7, .box 448 0), (8, .arr 896), (9, .c (.int .i64 i))] [(192, .box [.c (.im g.commits.length (flat g.commits)), .c (.int .i64 g.head)]), (384, .box [.nil, .nil, .nil, .nil]), (448, .box [.arr 640, .arr 641, .arr 642, .arr 643]), (640, .arr 0 3 1 (baseK g (jointsR g a b) i).know.length (flat (baseK g (jointsR g a b) i).know)), (641, .arr 0 179 3 (baseK g (jointsR g a b) i).tallies.length (flat (baseK g (jointsR g a b) i).tallies)), (642, .arr 0 182 6 (baseK g (jointsR g a b) i).lives.length (flat (baseK g (jointsR g a b) i).lives)), (643, .arr 0 185 8 (baseK g (jointsR g a b) i).cs.length (flat (baseK g (jointsR g a b) i).cs)), (896, .arr 0 3 1 (jointsR g a b).length (flat (jointsR g a b)))]) (fun i => (jointsR g a b).length - i) 0 (Wk_to [3, 6, 7, 8, 9] [(192, 192), (384, 384), (448, 448), (640, 640), (641, 641), (642, 642), (643, 643), (896, 896)] rfl rfl (by simp [baseK])) (by simp) ?_
  rintro i hi
  refine AW_of h21 TryzT_ok (by kernel_rfl) ?_
  rcases Nat.lt_or_ge i (jointsR g a b).length with h1 | h1
  · obtain ⟨o, ho, eo⟩ := jointsR_at h1
    have hko := baseK_ok hgo (jointsR g a b) i (fun j hj => by obtain ⟨o, h1, h2⟩ := jointsR_at (Nat.lt_of_lt_of_le hj hi); omega)
    have hso := hcs _ (nth_mem ho)
    have eon : (nth (jointsR g a b) i).toNat = o := by omega
    simp -dsimp [h1, ne_of_lt h1, eo, ho, ne_of_lt ho]
    repeat (first | refine ⟨by omega, ?_⟩ | refine ⟨by simp [capMax]; omega, ?_⟩ | refine ⟨⟨by omega, by omega⟩, ?_⟩)
    refine ACallK_of (f78_ok _ _ hko hso) ?_
    simp -dsimp
    exact Back_of (i + 1) [3, 6, 7, 8, 9] [(192, 192), (384, 384), (448, 448), (640, 1984), (641, 1985), (642, 1986), (643, 1987), (896, 896)] rfl rfl (by simp [baseK, eon]; rw [wrap64 (by omega) (by omega)]) (by omega) (by omega)
  · obtain rfl : i = (jointsR g a b).length := by omega
    simp -dsimp
    simp [baseOf]

@[simp] def h23 : Hts := { merge := fun _ => false, mergeF := fun _ => false, dr := fun id => if id = 5 then [{}, {}, {}, {}, {}, {}, {}, { cr := true }, { wr := [448] }] else [] }
set_option maxHeartbeats 4000000 in
theorem f23_ok (g : GGraph) (hg : g.Ok) (a b : Int) : FnR Tryz.prog 23 [.agg [.im g.commits.length (flat g.commits), .int .i64 g.head], .v (.int .i64 a), .v (.int .i64 b)] (.agg [.ow 3 1 (baseOf g a b).know.length (flat (baseOf g a b).know), .ow 179 3 (baseOf g a b).tallies.length (flat (baseOf g a b).tallies), .ow 182 6 (baseOf g a b).lives.length (flat (baseOf g a b).lives), .ow 185 8 (baseOf g a b).cs.length (flat (baseOf g a b).cs)]) := by
  have hgo := hg
  simp only [GGraph.Ok] at hg
  have hcs : ∀ y, y ∈ g.commits → y.state.Ok := fun y hy => by have := hg.2 y hy; simp only [GCommit.Ok] at this; exact this.2
  have hjl := jointsR_lb g a b
  refine FnW.of_AW TryzT_ok 0 (fn := Tryz.f23) (by kernel_rfl) rfl (by kernel_rfl) rfl rfl rfl ?_; refine AW_of h23 TryzT_ok (by kernel_rfl) ?_
  simp -dsimp
  refine ACallK_of (f80_ok) ?_
  simp -dsimp
  refine ACallK_of (f81_ok _ hgo _ _) ?_
  simp -dsimp
  refine AWh_loop (fun i : Nat => i ≤ (jointsR g a b).length) (fun i => mkE [(3, .box 192 0), (6, .box 384 0), (7, .box 448 0), (14, .arr 896), (15, .c (.int .i64 (jointsR g a b).length)), (16, .c (.int .i64 i))] [(192, .box [.c (.im g.commits.length (flat g.commits)), .c (.int .i64 g.head)]), (384, .box [.nil, .nil, .nil, .nil]), (448, .box [.arr 640, .arr 641, .arr 642, .arr 643]), (640, .arr 0 3 1 (baseK g (jointsR g a b) i).know.length (flat (baseK g (jointsR g a b) i).know)), (641, .arr 0 179 3 (baseK g (jointsR g a b) i).tallies.length (flat (baseK g (jointsR g a b) i).tallies)), (642, .arr 0 182 6 (baseK g (jointsR g a b) i).lives.length (flat (baseK g (jointsR g a b) i).lives)), (643, .arr 0 185 8 (baseK g (jointsR g a b) i).cs.length (flat (baseK g (jointsR g a b) i).cs)), (896, .arr 0 3 1 (jointsR g a b).length (flat (jointsR g a b)))]) (fun i => (jointsR g a b).length - i) 0 (Wk_to [3, 6, 7, 14, 15, 16] [(192, 192), (384, 384), (448, 448), (640, 640), (641, 641), (642, 642), (643, 643), (896, 896)] rfl rfl (by simp [baseK])) (by simp) ?_
  rintro i hi
  refine AW_of h23 TryzT_ok (by kernel_rfl) ?_
  rcases Nat.lt_or_ge i (jointsR g a b).length with h1 | h1
  · obtain ⟨o, ho, eo⟩ := jointsR_at h1
    have hko := baseK_ok hgo (jointsR g a b) i (fun j hj => by obtain ⟨o, h1, h2⟩ := jointsR_at (Nat.lt_of_lt_of_le hj hi); omega)
    have hso := hcs _ (nth_mem ho)
    have eon : (nth (jointsR g a b) i).toNat = o := by omega
    simp -dsimp [h1, ne_of_lt h1, eo, ho, ne_of_lt ho]
    repeat (first | refine ⟨by omega, ?_⟩ | refine ⟨by simp [capMax]; omega, ?_⟩ | refine ⟨⟨by omega, by omega⟩, ?_⟩)
    refine ACallK_of (f82_ok _ _ hko hso) ?_
    simp -dsimp
    exact Back_of (i + 1) [3, 6, 7, 14, 15, 16] [(192, 192), (384, 384), (448, 448), (640, 1728), (641, 1729), (642, 1730), (643, 1731), (896, 896)] rfl rfl (by simp [baseK, eon]; rw [wrap64 (by omega) (by omega)]) (by omega) (by omega)
  · obtain rfl : i = (jointsR g a b).length := by omega
    simp -dsimp
    simp [baseOf]
end Am
