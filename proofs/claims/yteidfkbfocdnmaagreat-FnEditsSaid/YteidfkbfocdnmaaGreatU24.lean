/- Rows: each cell once, each behind what it was put behind; all of them. No condition. -/
import Derived.Test.YteidfkbfocdnmaaGreatD
import Derived.Test.YteidfkbfocdnmaaGreatU1
import Derived.Test.YteidfkbfocdnmaaGreatE70
import Derived.Test.YteidfkbfocdnmaaGreatE93a
import Derived.Test.YteidfkbfocdnmaaGreatV1
import Derived.Test.YteidfkbfocdnmaaGreatT
import Derived.Test.YteidfkbfocdnmaaGreatV7
namespace Am
open Go
set_option linter.unusedSimpArgs false
set_option linter.unusedVariables false

theorem kids_memI {cs : List GCell} {o : ByteArray} {r : GDot} {k : GCell} : k ∈ kids cs o r ↔ k ∈ cs ∧ k.obj = o ∧ k.ref = r := by
  refine ⟨kids_mem, fun ⟨h1, h2, h3⟩ => ?_⟩
  unfold kids
  rw [(insN_perm _ _ _ _ _).mem_iff, filK_mem (Nat.le_refl _)]
  obtain ⟨i, hi, e⟩ := mem_nth h1
  exact .inr ⟨i, hi, e, by simp [kidP, h2, h3]⟩
theorem preD_nodup {cs : List GCell} (h : RowF cs) (o : ByteArray) : (preD cs o zeroDot).Nodup ∧ zeroDot ∉ preD cs o zeroDot := by
  have hE := Dfs.end h (o := o) (n := dfsMu cs ([], [zeroDot])) (Dfs.start cs o) (Nat.le_refl _)
  exact ⟨by simpa using hE.nodup, hE.zero1⟩
theorem row_eq {s : GState} (h : SOK s) (o : ByteArray) : row s o = preO s.cs o zeroDot := by
  unfold row; rw [if_pos (of_sok h)]
end Am
namespace Am
open Go
set_option linter.unusedSimpArgs false
set_option linter.unusedVariables false

def insAft (r : GDot) (c : GCell) (l : List GCell) : List GCell := l.flatMap fun x => if x.dot = r then [x, c] else [x]
theorem insAft_cons (r : GDot) (c x : GCell) (l : List GCell) : insAft r c (x :: l) = (if x.dot = r then [x, c] else [x]) ++ insAft r c l := rfl
theorem insAft_app (r : GDot) (c : GCell) (a b : List GCell) : insAft r c (a ++ b) = insAft r c a ++ insAft r c b := List.flatMap_append
theorem insAft_none {r : GDot} {c : GCell} : ∀ {l : List GCell}, (∀ x, x ∈ l → x.dot ≠ r) → insAft r c l = l
  | [], _ => rfl
  | x :: l, h => by
    show (if x.dot = r then [x, c] else [x]) ++ insAft r c l = x :: l
    rw [if_neg (h x (by simp)), insAft_none (fun y hy => h y (by simp [hy]))]; rfl
theorem kids_pw {cs : List GCell} (h : RowF cs) (o : ByteArray) (r : GDot) : (kids cs o r).Pairwise fun a b => later a b = true := insLater_sorted h _ _ (Nat.le_refl _)
structure Newest (cs cs' : List GCell) (c : GCell) : Prop where
  f : RowF cs
  f' : RowF cs'
  m : ∀ x, x ∈ cs' ↔ x = c ∨ x ∈ cs
  t : ∀ x, x ∈ cs → x.time < c.time
  n : ∀ x, x ∈ cs → x.ref ≠ c.dot
  s : c.ref ≠ c.dot
theorem kids_new {cs cs' : List GCell} {c : GCell} (h : Newest cs cs' c) (q : GDot) : kids cs' c.obj q = if q = c.ref then c :: kids cs c.obj q else kids cs c.obj q := by
  have hl : ∀ x, x ∈ cs → later c x = true := fun x hx => by have := h.t x hx; simp [later, this]
  refine lt_uniq2 later_Lt (kids_pw h.f' _ _) ?_ fun x => ?_
  · split
    · rw [List.pairwise_cons]
      exact ⟨fun x hx => hl x (kids_mem hx).1, kids_pw h.f _ _⟩
    · exact kids_pw h.f _ _
  · rw [kids_memI, h.m]
    split
    · rename_i e
      rw [List.mem_cons, kids_memI]
      constructor
      · rintro ⟨rfl | h1, h2⟩
        · exact .inl rfl
        · exact .inr ⟨h1, h2⟩
      · rintro (rfl | ⟨h1, h2⟩)
        · exact ⟨.inl rfl, rfl, e.symm⟩
        · exact ⟨.inr h1, h2⟩
    · rename_i e
      rw [kids_memI]
      constructor
      · rintro ⟨rfl | h1, h2⟩
        · exact absurd h2.2.symm e
        · exact ⟨h1, h2⟩
      · rintro ⟨h1, h2⟩; exact ⟨.inr h1, h2⟩
theorem pre_leaf {cs cs' : List GCell} {c : GCell} (h : Newest cs cs' c) : ∀ n, pre cs' c.obj n c.dot = []
  | 0 => rfl
  | n + 1 => by
    have e : kids cs' c.obj c.dot = [] := by
      refine List.eq_nil_iff_forall_not_mem.2 fun x hx => ?_
      obtain ⟨h1, _, h3⟩ := kids_mem hx
      rcases (h.m x).1 h1 with rfl | h1
      · exact h.s h3
      · exact h.n x h1 h3
    rw [pre, e]; rfl
theorem pre_new {cs cs' : List GCell} {c : GCell} (h : Newest cs cs' c) : ∀ {n : Nat} {q : GDot}, fuelOk cs n q → pre cs' c.obj n q = (if q = c.ref then [c] else []) ++ insAft c.ref c (pre cs c.obj n q)
  | 0, q, hf => absurd hf (fuel0 h.f)
  | n + 1, q, hf => by
    have key : ∀ l : List GCell, (∀ k, k ∈ l → k ∈ kids cs c.obj q) → (l.flatMap fun k => k :: pre cs' c.obj n k.dot) = insAft c.ref c (l.flatMap fun k => k :: pre cs c.obj n k.dot) := by
      intro l
      induction l with
      | nil => intro _; rfl
      | cons k l ih =>
        intro hl
        rw [List.flatMap_cons, List.flatMap_cons, insAft_app, ih (fun x hx => hl x (by simp [hx])), pre_new h (fuel_kid h.f hf (hl k (by simp)))]
        congr 1
        show k :: ((if k.dot = c.ref then [c] else []) ++ insAft c.ref c (pre cs c.obj n k.dot)) = (if k.dot = c.ref then [k, c] else [k]) ++ insAft c.ref c (pre cs c.obj n k.dot)
        split <;> rfl
    rw [pre, pre, kids_new h q]
    split
    · rw [List.flatMap_cons, pre_leaf h, key _ fun _ hk => hk]
      try rfl
    · rw [key _ fun _ hk => hk]; rfl
theorem insAft_live {r : GDot} {c : GCell} (hc : c.gone = false) : ∀ {l : List GCell}, (∀ x, x ∈ l → x.dot = r → x.gone = false) → (insAft r c l).filter (fun x => !x.gone) = insAft r c (l.filter fun x => !x.gone)
  | [], _ => rfl
  | x :: l, h => by
    have ih := insAft_live (r := r) hc (l := l) (fun y hy => h y (by simp [hy]))
    show ((if x.dot = r then [x, c] else [x]) ++ insAft r c l).filter _ = _
    rw [List.filter_append, ih]
    by_cases e : x.dot = r
    · have hg := h x (by simp) e
      have e2 : (x :: l).filter (fun x => !x.gone) = x :: l.filter fun x => !x.gone := List.filter_cons_of_pos (by simp [hg])
      rw [e2, insAft_cons, if_pos e]
      simp [hg, hc]
    · cases hg : x.gone
      · have e2 : (x :: l).filter (fun x => !x.gone) = x :: l.filter fun x => !x.gone := List.filter_cons_of_pos (by simp [hg])
        rw [e2, insAft_cons, if_neg e]
        simp [hg]
      · have e2 : (x :: l).filter (fun x => !x.gone) = l.filter fun x => !x.gone := List.filter_cons_of_neg (by simp [hg])
        rw [e2, if_neg e]
        simp [hg]
theorem insAft_at {r : GDot} {c : GCell} : ∀ {l : List GCell} {j : Nat}, (l.map (·.dot)).Nodup → j < l.length → (nth l j).dot = r → insAft r c l = l.take (j + 1) ++ c :: l.drop (j + 1)
  | x :: l, 0, hn, _, e => by
    have e : x.dot = r := e
    rw [List.map_cons, List.nodup_cons] at hn
    show (if x.dot = r then [x, c] else [x]) ++ insAft r c l = _
    rw [if_pos e, insAft_none fun y hy h => hn.1 (by rw [e, ← h]; exact List.mem_map.2 ⟨y, hy, rfl⟩)]
    rfl
  | x :: l, j + 1, hn, hj, e => by
    have e : (nth l j).dot = r := e
    have hj : j < l.length := by simpa using hj
    rw [List.map_cons, List.nodup_cons] at hn
    have hx : ¬ x.dot = r := fun h => hn.1 (by rw [h, ← e]; exact List.mem_map.2 ⟨_, nth_mem hj, rfl⟩)
    show (if x.dot = r then [x, c] else [x]) ++ insAft r c l = _
    rw [if_neg hx, insAft_at hn.2 hj e]
    rfl
/-- One is gone. -/
def goneG (r : GDot) (x : GCell) : GCell := if x.dot = r then { x with gone := true } else x
theorem goneG_dot (r : GDot) (x : GCell) : (goneG r x).dot = x.dot := by unfold goneG; split <;> rfl
theorem goneG_ref (r : GDot) (x : GCell) : (goneG r x).ref = x.ref := by unfold goneG; split <;> rfl
theorem goneG_obj (r : GDot) (x : GCell) : (goneG r x).obj = x.obj := by unfold goneG; split <;> rfl
theorem goneG_time (r : GDot) (x : GCell) : (goneG r x).time = x.time := by unfold goneG; split <;> rfl
theorem later_gone (r : GDot) (x y : GCell) : later (goneG r x) (goneG r y) = later x y := by simp only [later, goneG_time, goneG_dot]
theorem kids_gone {cs cs' : List GCell} (hf : RowF cs) (hf' : RowF cs') {r : GDot} (hm : ∀ x, x ∈ cs' ↔ ∃ y, y ∈ cs ∧ x = goneG r y) (o : ByteArray) (q : GDot) : kids cs' o q = (kids cs o q).map (goneG r) := by
  refine lt_uniq2 later_Lt (kids_pw hf' _ _) ?_ fun x => ?_
  · rw [List.pairwise_map]
    exact (kids_pw hf o q).imp fun {a b} h => by rw [later_gone]; exact h
  · rw [kids_memI, hm, List.mem_map]
    constructor
    · rintro ⟨⟨y, hy, rfl⟩, h2, h3⟩
      rw [goneG_obj] at h2
      rw [goneG_ref] at h3
      exact ⟨y, kids_memI.2 ⟨hy, h2, h3⟩, rfl⟩
    · rintro ⟨y, hy, rfl⟩
      obtain ⟨h1, h2, h3⟩ := kids_memI.1 hy
      exact ⟨⟨y, h1, rfl⟩, by rw [goneG_obj]; exact h2, by rw [goneG_ref]; exact h3⟩
theorem pre_gone {cs cs' : List GCell} (hf : RowF cs) (hf' : RowF cs') {r : GDot} (hm : ∀ x, x ∈ cs' ↔ ∃ y, y ∈ cs ∧ x = goneG r y) (o : ByteArray) : ∀ (n : Nat) (q : GDot), pre cs' o n q = (pre cs o n q).map (goneG r)
  | 0, _ => rfl
  | n + 1, q => by
    rw [pre, pre, kids_gone hf hf' hm, List.flatMap_map, List.map_flatMap]
    congr 1
    funext k
    rw [goneG_dot, pre_gone hf hf' hm o n k.dot]; rfl
theorem gone_count {r : GDot} : ∀ {l : List GCell}, (l.map (·.dot)).Nodup → (∃ x, x ∈ l ∧ x.dot = r ∧ x.gone = false) → ((l.map (goneG r)).filter fun x => !x.gone).length + 1 = (l.filter fun x => !x.gone).length
  | [], _, ⟨x, hx, _⟩ => by cases hx
  | y :: l, hn, ⟨x, hx, e, hg⟩ => by
    rw [List.map_cons, List.nodup_cons] at hn
    rw [List.map_cons]
    have same : ∀ {m : List GCell}, (∀ z, z ∈ m → z.dot ≠ r) → m.map (goneG r) = m := by
      intro m
      induction m with
      | nil => intro _; rfl
      | cons z m ih =>
        intro h
        rw [List.map_cons, ih (fun w hw => h w (by simp [hw]))]
        unfold goneG
        rw [if_neg (h z (by simp))]
    by_cases ey : y.dot = r
    · have hxy : x = y := by
        rcases List.mem_cons.1 hx with h | h
        · exact h
        · exact absurd (List.mem_map.2 ⟨x, h, by rw [e, ey]⟩) hn.1
      subst hxy
      rw [same fun z hz h => hn.1 (by rw [ey, ← h]; exact List.mem_map.2 ⟨z, hz, rfl⟩)]
      have : goneG r x = { x with gone := true } := by unfold goneG; rw [if_pos ey]
      rw [this, List.filter_cons_of_neg (by simp), List.filter_cons_of_pos (by simp [hg])]
      rfl
    · have hx' : x ∈ l := by
        rcases List.mem_cons.1 hx with h | h
        · rw [h] at e; exact absurd e ey
        · exact h
      have ih := gone_count hn.2 ⟨x, hx', e, hg⟩
      have : goneG r y = y := by unfold goneG; rw [if_neg ey]
      rw [this]
      cases hgy : y.gone
      · rw [List.filter_cons_of_pos (by simp [hgy]), List.filter_cons_of_pos (by simp [hgy])]
        simp only [List.length_cons]; omega
      · rw [List.filter_cons_of_neg (by simp [hgy]), List.filter_cons_of_neg (by simp [hgy])]
        exact ih
end Am
namespace Am
open Go
set_option linter.unusedSimpArgs false
set_option linter.unusedVariables false

theorem knowOk_len {k : List Int} (h : knowOk k = true) : k.length = 3 ∧ ∀ j : Nat, j < 3 → 0 ≤ nth k j ∧ nth k j ≤ 1000 := by
  simp only [knowOk, Bool.and_eq_true, decide_eq_true_eq] at h
  exact ⟨h.1, fun j hj => h.2 j (by omega)⟩
theorem actRaw_ok {s : GState} {rep time : Int} {e : GEdit} (hs : SOK s) (hp : actPre s rep time e = true) (hq : (actPlace s e).2 = true) : actOk (actRaw s rep time e) = true := by
  simp only [actPre, Bool.and_eq_true, decide_eq_true_eq] at hp
  obtain ⟨⟨⟨⟨p1, p2⟩, p3⟩, p4⟩, p5⟩ := hp
  obtain ⟨k3, kb⟩ := knowOk_len hs.k
  have hr : 0 ≤ rep ∧ rep ≤ 2 := by simpa [spIn] using p3
  have hkb := kb rep.toNat (by omega)
  simp only [editOk, Bool.and_eq_true] at p2
  have hplace : ∀ i, (placeIn s e.obj i).2 = true → knows s.know (placeIn s e.obj i).1 = true := fun i hi => by
    obtain ⟨x, x1, x2, _⟩ := placeIn_at hi
    rw [← x2]; exact (hs.c2 x x1).1
  have href : actRef (actRaw s rep time e) = true := by
    have z : refZ zeroDot = true := by decide
    show (if (e.kind == 7) = true then knows s.know (actPlace s e).1 else if (e.kind == 6) = true then refZ (actPlace s e).1 || knows s.know (actPlace s e).1 else refZ (actPlace s e).1) = true
    unfold actPlace at hq ⊢
    by_cases h7 : e.kind = 7
    · rw [if_neg (by omega), if_pos h7] at hq
      rw [if_pos (by simp [h7]), if_neg (by omega), if_pos h7]
      exact hplace _ hq
    · rw [if_neg (by simp [h7])]
      by_cases h6 : e.kind = 6
      · rw [if_pos (by simp [h6])]
        by_cases hpl : 0 < e.place
        · rw [if_pos ⟨h6, hpl⟩] at hq ⊢
          rw [hplace _ hq]; simp
        · rw [if_neg (by omega), if_neg h7, z]; rfl
      · rw [if_neg (by simp [h6]), if_neg (by omega), if_neg h7]
        exact z
  simp only [actOk, Bool.and_eq_true]
  refine ⟨⟨⟨⟨⟨?_, hs.k⟩, ?_⟩, p4⟩, p2.1⟩, href⟩
  · show dotOk ⟨rep, nth s.know rep.toNat + 1⟩ = true
    simp only [dotOk, spIn, Bool.and_eq_true, decide_eq_true_eq]; omega
  · rw [beq_iff_eq]; show nth s.know rep.toNat = nth s.know rep.toNat + 1 - 1; omega
theorem actOf_code {s : GState} {rep time : Int} {e : GEdit} (hs : SOK s) (hp : actPre s rep time e = true) : (actOf s rep time e).2 = 0 ∨ ((actOf s rep time e).2 = 5 ∧ 6 ≤ e.kind) := by
  unfold actOf
  rw [if_neg (by rw [hp]; simp)]
  cases hq : (actPlace s e).2
  · right
    rw [if_pos rfl]
    refine ⟨rfl, ?_⟩
    unfold actPlace at hq
    split at hq
    · rename_i h; omega
    · split at hq
      · omega
      · cases hq
  · left
    rw [if_neg (by simp), if_neg (by rw [actRaw_ok hs hp hq]; simp)]
/-- What is counted, all together. -/
def sumO (o : ByteArray) : List GTally → Int
  | [] => 0
  | x :: l => (if x.obj = o then x.sum else 0) + sumO o l
theorem sumO_perm {o : ByteArray} {l m : List GTally} (h : l.Perm m) : sumO o l = sumO o m := by
  induction h with
  | nil => rfl
  | cons a _ ih => simp only [sumO, ih]
  | swap a b _ => simp only [sumO]; omega
  | trans _ _ h1 h2 => omega
theorem sumO_set {o : ByteArray} : ∀ {l : List GTally} {i : Nat} (t : GTally), i < l.length → t.obj = (nth l i).obj → sumO o (l.set i t) = sumO o l + (if t.obj = o then t.sum - (nth l i).sum else 0)
  | x :: l, 0, t, _, e => by
    have e : t.obj = x.obj := e
    have hn : nth (x :: l) 0 = x := rfl
    rw [List.set_cons_zero, sumO, sumO, hn, ← e]
    split <;> omega
  | x :: l, i + 1, t, h, e => by
    have hn : nth (x :: l) (i + 1) = nth l i := rfl
    rw [hn] at e
    rw [List.set_cons_succ, sumO, sumO, sumO_set t (by simpa using h) e, hn]
    omega
theorem sumO_snoc (o : ByteArray) (l : List GTally) (x : GTally) : sumO o (l ++ [x]) = sumO o l + if x.obj = o then x.sum else 0 := by
  induction l with
  | nil => simp [sumO]
  | cons y l ih => rw [List.cons_append, sumO, sumO, ih]; omega
theorem sumO_nonneg {o : ByteArray} : ∀ {l : List GTally}, (∀ t, t ∈ l → 0 ≤ t.sum) → 0 ≤ sumO o l
  | [], _ => by simp [sumO]
  | x :: l, h => by
    have h1 := h x (by simp)
    have h2 := sumO_nonneg (o := o) (l := l) (fun t ht => h t (by simp [ht]))
    rw [sumO]; split <;> omega
def couK (l : List GTally) (o : ByteArray) : Nat → Int
  | 0 => 0
  | i + 1 => if (nth l i).obj = o then (couK l o i + (nth l i).sum.tmod 1000000).tmod 1000000 else couK l o i
def countOf (s : GState) (o : ByteArray) : Int := couK s.tallies o s.tallies.length
theorem tmod_abs (a : Int) : -1000000 < a.tmod 1000000 ∧ a.tmod 1000000 < 1000000 := by
  have h1 := Int.tmod_lt_of_pos a (show (0 : Int) < 1000000 by omega)
  have h2 := Int.lt_tmod_of_pos a (show (0 : Int) < 1000000 by omega)
  omega
theorem couK_bd (l : List GTally) (o : ByteArray) : ∀ i, -1000000 < couK l o i ∧ couK l o i < 1000000
  | 0 => by simp [couK]
  | i + 1 => by
    rw [couK]
    split
    · exact tmod_abs _
    · exact couK_bd l o i
theorem couK_sum {l : List GTally} {o : ByteArray} (h : ∀ t, t ∈ l → 0 ≤ t.sum) : ∀ i : Nat, i ≤ l.length → couK l o i = sumO o (l.take i) % 1000000
  | 0, _ => by simp [couK, sumO]
  | i + 1, hi => by
    have hx := h _ (nth_mem (show i < l.length by omega))
    have h0 := sumO_nonneg (o := o) (l := l.take i) (fun t ht => h t (List.mem_of_mem_take ht))
    rw [couK, take_snoc (by omega), sumO_snoc, couK_sum h i (by omega)]
    split
    · rw [Int.tmod_eq_emod_of_nonneg hx, Int.tmod_eq_emod_of_nonneg (by omega)]
      omega
    · omega
theorem countOf_sum {s : GState} (h : SOK s) (o : ByteArray) : countOf s o = sumO o s.tallies % 1000000 := by
  have hp : ∀ t, t ∈ s.tallies → 0 ≤ t.sum := fun t ht => by
    have := h.t2 t ht
    simp only [tallyOk, spIn, Bool.and_eq_true, decide_eq_true_eq] at this
    omega
  unfold countOf
  rw [couK_sum hp _ (Nat.le_refl _), List.take_length]
theorem addT_sum {l : List GTally} {o : ByteArray} {r v : Int} (h : ∀ t, t ∈ l → 0 ≤ t.sum ∧ t.sum ≤ 999999) (hv : 0 ≤ v ∧ v ≤ 999999) : sumO o (addT l o r v) % 1000000 = (sumO o l + v) % 1000000 := by
  rcases addT_cases l o r v with ⟨i, hi, q1, q2, e⟩ | ⟨q, e⟩
  · have hb := h _ (nth_mem hi)
    rw [e, sumO_set _ hi (by rw [q1]), if_pos rfl]
    simp only
    rw [wrap64 (by omega) (by omega), Int.tmod_eq_emod_of_nonneg (by omega)]
    omega
  · rw [e, sumO_perm (insF_perm _ _), sumO, if_pos rfl]
    simp only
    omega
end Am
namespace Am
open Go Go.Proofs
open Cel (cells)
set_option maxRecDepth 100000
set_option linter.unusedSimpArgs false
set_option linter.unusedVariables false

/-- A wish turned. -/
def edM (k y : Int) (e : GEdit) : GEdit :=
  if k = 0 then { e with kind := y.tmod 10 }
  else if k = 1 then { e with obj := ⟨#[]⟩ }
  else if k = 2 then { e with val := nth ([-1, 1000000, 5] : List Int) (y.tmod 3).toNat }
  else if k = 3 then { e with place := y.tmod 8 - 1 }
  else e
def anyE (c : GCur) : GEdit × GCur := (edM (curN c 10).1 (curN (curN c 10).2 60).1 (editD (curN (curN c 10).2 60).2).1, (editD (curN (curN c 10).2 60).2).2)
theorem anyE_ok {c : GCur} (h : c.Ok) : (anyE c).2.Ok := editD_ok (curN_ok (curN_ok h _) _)
theorem anyE_sz (c : GCur) : (anyE c).1.obj.size ≤ 8 ∧ (anyE c).1.key.size ≤ 8 ∧ (anyE c).1.place ≤ 100 := by
  obtain ⟨g1, g2, g3, g4, g5⟩ := editD_good (curN (curN c 10).2 60).2
  have hb := curN_bd (curN c 10).2 (n := 60) (by decide)
  have t8 := tmod_bd hb.1 (n := 8) (by decide)
  show (edM (curN c 10).1 (curN (curN c 10).2 60).1 (editD (curN (curN c 10).2 60).2).1).obj.size ≤ 8 ∧ (edM (curN c 10).1 (curN (curN c 10).2 60).1 (editD (curN (curN c 10).2 60).2).1).key.size ≤ 8 ∧ (edM (curN c 10).1 (curN (curN c 10).2 60).1 (editD (curN (curN c 10).2 60).2).1).place ≤ 100
  unfold edM
  split
  · exact ⟨g2, g3, by simp only; omega⟩
  split
  · exact ⟨Nat.zero_le _, g3, by simp only; omega⟩
  split
  · exact ⟨g2, g3, by simp only; omega⟩
  split
  · exact ⟨g2, g3, by simp only; omega⟩
  · exact ⟨g2, g3, by omega⟩

@[simp] def h161 : Hts := { merge := fun _ => false, mergeF := fun _ => false, lend := fun f => if f = 117 || f = 155 then [.box []] else [] }
set_option maxHeartbeats 4000000 in
theorem f161_ok (c : GCur) (hc : c.Ok) : FnW Tryz.prog 161 [.ptr [.im c.b.length (flat c.b), .int .i64 c.i, .int .i64 c.h]] (.agg [.int .i64 ((anyE c).1).kind, .str ((anyE c).1).obj, .str ((anyE c).1).key, .int .i64 ((anyE c).1).val, .int .i64 ((anyE c).1).place]) [.ptr [.im ((anyE c).2).b.length (flat ((anyE c).2).b), .int .i64 ((anyE c).2).i, .int .i64 ((anyE c).2).h]] := by
  have hk := curN_bd c (n := 10) (by decide)
  have hy := curN_bd (curN c 10).2 (n := 60) (by decide)
  have d1 : (anyE c).1 = edM (curN c 10).1 (curN (curN c 10).2 60).1 (editD (curN (curN c 10).2 60).2).1 := rfl
  have d2 : (anyE c).2 = (editD (curN (curN c 10).2 60).2).2 := rfl
  rw [d1, d2]
  refine FnW.of_AW TryzT_ok 1 (fn := Tryz.f161) (by kernel_rfl) rfl (by kernel_rfl) rfl rfl rfl ?_; refine AW_of h161 TryzT_ok (by kernel_rfl) ?_
  simp -dsimp
  refine ACallW_args (by intro us; simp -dsimp; exact ⟨rfl, rfl, rfl⟩) ?_
  refine ACallC_of (fun us => f117_ok c hc 10) (by intro us; simp -dsimp; exact ⟨rfl, rfl⟩) ?_
  simp -dsimp
  refine ACallW_args (by intro us; simp -dsimp; exact ⟨rfl, rfl, rfl⟩) ?_
  refine ACallC_of (fun us => f117_ok (curN c 10).2 (curN_ok hc _) 60) (by intro us; simp -dsimp; exact ⟨rfl, rfl⟩) ?_
  simp -dsimp
  refine ACallW_args (by intro us; simp -dsimp; exact ⟨rfl, rfl, rfl⟩) ?_
  refine ACallC_of (fun us => f155_ok (curN (curN c 10).2 60).2 (curN_ok (curN_ok hc _) _)) (by intro us; simp -dsimp; exact ⟨rfl, rfl⟩) ?_
  generalize (editD (curN (curN c 10).2 60).2).1 = e at *
  generalize (editD (curN (curN c 10).2 60).2).2 = c1 at *
  generalize (curN (curN c 10).2 60).1 = y at *
  generalize (curN c 10).1 = k at *
  have tm : ∀ n : Int, 0 < n → ∃ m : Nat, y.tmod n = m ∧ (m : Int) < n := fun n hn => by
    have := tmod_bd hy.1 hn
    exact ⟨(y.tmod n).toNat, by omega, by omega⟩
  by_cases k0 : k = 0
  · subst k0
    simp -dsimp
    simp [edM]
  by_cases k1 : k = 1
  · subst k1
    simp -dsimp
    simp [edM]
  by_cases k2 : k = 2
  · obtain ⟨m, e3, m3⟩ := tm 3 (by omega)
    subst k2
    obtain h0 | h0 | h0 : m = 0 ∨ m = 1 ∨ m = 2 := by omega
    · subst h0
      have e3 : y.tmod 3 = 0 := by simpa using e3
      simp -dsimp [e3]
      simp [edM, e3, nth]
    · subst h0
      have e3 : y.tmod 3 = 1 := by simpa using e3
      simp -dsimp [e3]
      simp [edM, e3, nth]
    · subst h0
      have e3 : y.tmod 3 = 2 := by simpa using e3
      simp -dsimp [e3]
      simp [edM, e3, nth]
  by_cases k3 : k = 3
  · have b8 := tmod_bd hy.1 (n := 8) (by decide)
    have w8 : IntKind.i64.wrap (y.tmod 8 - 1) = y.tmod 8 - 1 := wrap64 (by omega) (by omega)
    subst k3
    simp -dsimp [w8]
    simp [edM]
  simp -dsimp [k0, k1, k2, k3]
  simp [edM, k0, k1, k2, k3]

@[simp] def h28 : Hts := { merge := fun _ => false, lend := fun f => if f = 155 then [.box []] else [] }
theorem f28_ok (b : List UInt8) (hb : b.length ≤ 1048576) : FnR Tryz.prog 28 [.v (.im b.length (flat b))] (.agg [.int .i64 ((editD (curNew b)).1).kind, .str ((editD (curNew b)).1).obj, .str ((editD (curNew b)).1).key, .int .i64 ((editD (curNew b)).1).val, .int .i64 ((editD (curNew b)).1).place]) := by
  refine FnW.of_AW TryzT_ok 0 (fn := Tryz.f28) (by kernel_rfl) rfl (by kernel_rfl) rfl rfl rfl ?_; refine AW_of h28 TryzT_ok (by kernel_rfl) ?_
  simp -dsimp
  refine ACallK_of (f115_ok b hb) ?_
  simp -dsimp
  refine ACallW_args (by intro us; simp -dsimp; exact ⟨rfl, rfl, rfl⟩) ?_
  refine ACallC_of (fun us => f155_ok (curNew b) (curNew_ok hb)) (by intro us; simp -dsimp; exact ⟨rfl, rfl⟩) ?_
  simp -dsimp
@[simp] def h33 : Hts := { merge := fun _ => false, lend := fun f => if f = 161 then [.box []] else [] }
theorem f33_ok (b : List UInt8) (hb : b.length ≤ 1048576) : FnR Tryz.prog 33 [.v (.im b.length (flat b))] (.agg [.int .i64 ((anyE (curNew b)).1).kind, .str ((anyE (curNew b)).1).obj, .str ((anyE (curNew b)).1).key, .int .i64 ((anyE (curNew b)).1).val, .int .i64 ((anyE (curNew b)).1).place]) := by
  refine FnW.of_AW TryzT_ok 0 (fn := Tryz.f33) (by kernel_rfl) rfl (by kernel_rfl) rfl rfl rfl ?_; refine AW_of h33 TryzT_ok (by kernel_rfl) ?_
  simp -dsimp
  refine ACallK_of (f115_ok b hb) ?_
  simp -dsimp
  refine ACallW_args (by intro us; simp -dsimp; exact ⟨rfl, rfl, rfl⟩) ?_
  refine ACallC_of (fun us => f161_ok (curNew b) (curNew_ok hb)) (by intro us; simp -dsimp; exact ⟨rfl, rfl⟩) ?_
  simp -dsimp

def repsL : List Int := [0, 1, 2, 0, 1, 3, -1]
def timesL : List Int := [20, 10000, 30, 10001, 0]
def daR (b : List UInt8) : Int × GCur := curPick (curNew b) repsL
def daT (b : List UInt8) : Int × GCur := curPick (daR b).2 timesL
def daE (b : List UInt8) : GEdit × GCur := anyE (daT b).2
@[simp] def h31 : Hts := { merge := fun _ => false, mergeF := fun _ => false, lend := fun f => if f = 160 then [.box [], .lend] else if f = 161 || f = 131 then [.box []] else [], dr := fun id => if id = 5 then [{}, { wr := [704], cr := true }, { mn := [128, 704], mb := [21] }, { mn := [128, 704], mb := [21] }, { mn := [128, 704], mb := [21] }, { wr := [128] }, {}, {}, { wr := [320] }] else [] }
set_option maxHeartbeats 2000000 in
theorem f31_ok (b : List UInt8) (hb : b.length ≤ 1048576) : FnR Tryz.prog 31 [.v (.im b.length (flat b))] (.tup [.agg [.ow 3 1 ((anyD (daE b).2).1).know.length (flat ((anyD (daE b).2).1).know), .ow 179 3 ((anyD (daE b).2).1).tallies.length (flat ((anyD (daE b).2).1).tallies), .ow 159 6 ((anyD (daE b).2).1).lives.length (flat ((anyD (daE b).2).1).lives), .ow 72 8 ((anyD (daE b).2).1).cs.length (flat ((anyD (daE b).2).1).cs)], .v (.int .i64 ((daR b).1)), .v (.int .i64 ((daT b).1)), .agg [.int .i64 ((daE b).1).kind, .str ((daE b).1).obj, .str ((daE b).1).key, .int .i64 ((daE b).1).val, .int .i64 ((daE b).1).place]]) := by
  have c0 := curNew_ok hb
  have c1 : (daR b).2.Ok := curPick_ok c0 _
  have c2 : (daT b).2.Ok := curPick_ok c1 _
  have c3 : (daE b).2.Ok := anyE_ok c2
  refine FnW.of_AW TryzT_ok 0 (fn := Tryz.f31) (by kernel_rfl) rfl (by kernel_rfl) rfl rfl rfl ?_; refine AW_of h31 TryzT_ok (by kernel_rfl) ?_
  simp -dsimp
  refine ACallK_of (f115_ok b hb) ?_
  simp -dsimp
  refine ACallW_args (by intro us; simp -dsimp; exact ⟨rfl, rfl, rfl⟩) ?_
  refine ACallC_of (fun us => f160_ok (curNew b) c0 repsL (by simp [repsL])) (by intro us; simp -dsimp; exact ⟨rfl, rfl⟩) ?_
  simp -dsimp
  refine ACallW_args (by intro us; simp -dsimp; exact ⟨rfl, rfl, rfl⟩) ?_
  refine ACallC_of (fun us => f160_ok (daR b).2 c1 timesL (by simp [timesL])) (by intro us; simp -dsimp [daR]; exact ⟨rfl, rfl⟩) ?_
  simp -dsimp
  refine ACallW_args (by intro us; simp -dsimp; exact ⟨rfl, rfl, rfl⟩) ?_
  refine ACallC_of (fun us => f161_ok (daT b).2 c2) (by intro us; simp -dsimp [daT, daR]; exact ⟨rfl, rfl⟩) ?_
  simp -dsimp
  refine ACallW_args (by intro us; simp -dsimp; exact ⟨rfl, rfl, rfl⟩) ?_
  refine ACallC_of (fun us => f131_ok (daE b).2 c3) (by intro us; simp -dsimp [daE, daT, daR]; exact ⟨rfl, rfl⟩) ?_
  simp -dsimp
  simp [daE, daT, daR]
end Am
namespace Am
open Go
set_option linter.unusedSimpArgs false
set_option linter.unusedVariables false

theorem livesOf_eq (s : GState) (m : Bool) (o k : ByteArray) : livesOf s m o k = s.lives.filter (livP m o k) := by
  unfold livesOf
  rw [filK_filter _ _ _ (Nat.le_refl _), List.take_length]
structure Wish (s : GState) (rep time : Int) (e : GEdit) : Prop where
  s0 : SOK s
  c : (actOf s rep time e).2 = 0
  t : timeOf s < time
  d : Done s (actRaw s rep time e)
  pl : (actPlace s e).2 = true
  ok : actOk (actRaw s rep time e) = true
  done : (doAct s (actOf s rep time e).1).1 = doneAct s (actRaw s rep time e)
theorem wish_of {s : GState} {rep time : Int} {e : GEdit} (hs : SOK s) (hc : (actOf s rep time e).2 = 0) (ht : timeOf s < time) (hd : (doAct s (actOf s rep time e).1).2 = 0) : Wish s rep time e := by
  rcases actOf_cases s rep time e with ⟨_, h1, h2, h3, h4⟩ | ⟨h1, _⟩
  · rw [h4] at hd
    obtain ⟨d1, d2⟩ := done_of hd
    exact ⟨hs, hc, ht, d1, h2, h3, by rw [h4]; exact d2⟩
  · exact absurd hc h1
theorem wish_val {s : GState} {rep time : Int} {e : GEdit} (h : Wish s rep time e) : 0 ≤ e.val ∧ e.val ≤ 999999 := by
  have := plain_of h.ok
  exact ⟨this.2.2.2.2.1, this.2.2.2.2.2.1⟩
theorem tal_bd {s : GState} (h : SOK s) : ∀ t, t ∈ s.tallies → 0 ≤ t.sum ∧ t.sum ≤ 999999 := fun t ht => by
  have := h.t2 t ht
  simp only [tallyOk, spIn, Bool.and_eq_true, decide_eq_true_eq] at this
  omega
theorem wish1 {s : GState} {rep time : Int} {e : GEdit} (h : Wish s rep time e) (hk : e.kind = 1) : countOf (doAct s (actOf s rep time e).1).1 e.obj = (countOf s e.obj + e.val) % 1000000 := by
  have hv := wish_val h
  have e1 : (doneAct s (actRaw s rep time e)).tallies = addT s.tallies e.obj rep e.val := by
    unfold doneAct; simp [actRaw, hk]
  have hs2 : SOK (doneAct s (actRaw s rep time e)) := done_sok h.d
  rw [h.done, countOf_sum hs2, countOf_sum h.s0, e1, addT_sum (tal_bd h.s0) hv]
  omega
theorem wish2 {s : GState} {rep time : Int} {e : GEdit} (h : Wish s rep time e) (hk : e.kind = 2) : (livesOf (doAct s (actOf s rep time e).1).1 false e.obj e.key).length = (livesOf s false e.obj e.key).length + 1 := by
  have e1 : (doneAct s (actRaw s rep time e)).lives = insF liveLt ⟨false, e.obj, e.key, 0, ⟨rep, nth s.know rep.toNat + 1⟩⟩ s.lives := by
    unfold doneAct; simp [actRaw, hk]
  rw [h.done, livesOf_eq, livesOf_eq, e1, ((insF_perm _ _).filter _).length_eq, List.filter_cons_of_pos (by simp [livP])]
  rfl
theorem clear_none {s : GState} (hs : SOK s) (m : Bool) (o k : ByteArray) : (clearK m o k s.know s.lives s.lives.length).filter (livP m o k) = [] := by
  refine List.eq_nil_iff_forall_not_mem.2 fun x hx => ?_
  rw [List.mem_filter, clear_mem] at hx
  obtain ⟨⟨h1, h2⟩, h3⟩ := hx
  simp only [livP, Bool.and_eq_true, beq_iff_eq, decide_eq_true_eq] at h3
  exact h2 ⟨h3.1, h3.2.1, h3.2.2, (hs.l2 x h1).1⟩
theorem wish3 {s : GState} {rep time : Int} {e : GEdit} (h : Wish s rep time e) (hk : e.kind = 3) : livesOf (doAct s (actOf s rep time e).1).1 false e.obj e.key = [] := by
  have e1 : (doneAct s (actRaw s rep time e)).lives = clearK false e.obj e.key s.know s.lives s.lives.length := by
    unfold doneAct; simp [actRaw, hk]
  rw [h.done, livesOf_eq, e1, clear_none h.s0]
theorem wish4 {s : GState} {rep time : Int} {e : GEdit} (h : Wish s rep time e) (hk : e.kind = 4) : livesOf (doAct s (actOf s rep time e).1).1 true e.obj e.key = [⟨true, e.obj, e.key, e.val, ⟨rep, nth s.know rep.toNat + 1⟩⟩] := by
  have e1 : (doneAct s (actRaw s rep time e)).lives = insF liveLt ⟨true, e.obj, e.key, e.val, ⟨rep, nth s.know rep.toNat + 1⟩⟩ (clearK true e.obj e.key s.know s.lives s.lives.length) := by
    unfold doneAct; simp [actRaw, hk]
  rw [h.done, livesOf_eq, e1]
  have hp := (insF_perm (lt := liveLt) ⟨true, e.obj, e.key, e.val, ⟨rep, nth s.know rep.toNat + 1⟩⟩ (clearK true e.obj e.key s.know s.lives s.lives.length)).filter (livP true e.obj e.key)
  rw [List.filter_cons_of_pos (by simp [livP]), clear_none h.s0] at hp
  exact List.perm_singleton.1 hp
theorem wish5 {s : GState} {rep time : Int} {e : GEdit} (h : Wish s rep time e) (hk : e.kind = 5) : livesOf (doAct s (actOf s rep time e).1).1 true e.obj e.key = [] := by
  have e1 : (doneAct s (actRaw s rep time e)).lives = clearK true e.obj e.key s.know s.lives s.lives.length := by
    unfold doneAct; simp [actRaw, hk]
  rw [h.done, livesOf_eq, e1, clear_none h.s0]
theorem row_nodup {s : GState} (h : SOK s) (o : ByteArray) : ((row s o).map (·.dot)).Nodup ∧ ∀ x, x ∈ row s o → x.dot ≠ zeroDot := by
  have := preD_nodup (rowF_of (of_sok h)) o
  rw [row_eq h]
  refine ⟨this.1, fun x hx e => ?_⟩
  have hm : x.dot ∈ preD s.cs o zeroDot := List.mem_map.2 ⟨x, hx, rfl⟩
  rw [e] at hm
  exact this.2 hm
theorem nth_map' {α β : Type} [Cel α] [Cel β] (f : α → β) {l : List α} {i : Nat} (h : i < l.length) : nth (l.map f) i = f (nth l i) := by
  unfold nth
  rw [List.getD_eq_getElem?_getD, List.getD_eq_getElem?_getD, List.getElem?_map, List.getElem?_eq_getElem h]
  rfl
theorem nodup_injC {l : List GCell} (h : (l.map (·.dot)).Nodup) {a b : GCell} (ha : a ∈ l) (hb : b ∈ l) (e : a.dot = b.dot) : a = b := by
  obtain ⟨i, hi, rfl⟩ := List.mem_iff_getElem.1 ha
  obtain ⟨j, hj, rfl⟩ := List.mem_iff_getElem.1 hb
  have : (l.map (·.dot))[i]'(by rw [List.length_map]; exact hi) = (l.map (·.dot))[j]'(by rw [List.length_map]; exact hj) := by rw [List.getElem_map, List.getElem_map, e]
  have := (List.getElem_inj h).1 this
  subst this; rfl
theorem wish6 {s : GState} {rep time : Int} {e : GEdit} (h : Wish s rep time e) (hk : e.kind = 6) (hp0 : 0 ≤ e.place) : (rowOf (doAct s (actOf s rep time e).1).1 e.obj).length = (rowOf s e.obj).length + 1 ∧ e.place.toNat < (rowOf (doAct s (actOf s rep time e).1).1 e.obj).length ∧ nth (rowOf (doAct s (actOf s rep time e).1).1 e.obj) e.place.toNat = e.val := by
  rw [h.done]
  have hT : SOK (doneAct s (actRaw s rep time e)) := done_sok h.d
  obtain ⟨c, hc⟩ : ∃ c : GCell, c = ⟨e.obj, ⟨rep, nth s.know rep.toNat + 1⟩, time, (actPlace s e).1, e.val, false⟩ := ⟨_, rfl⟩
  have e1 : (doneAct s (actRaw s rep time e)).cs = insF cellLt c s.cs := by
    rw [hc]; unfold doneAct; simp [actRaw, hk]
  have hn := h.d.n
  have hcd : (actRaw s rep time e).dot = c.dot := by rw [hc]; rfl
  rw [hcd] at hn
  have cz : c.dot ≠ zeroDot := by
    have h1 := dot_of h.ok
    rw [hcd] at h1
    intro q; rw [q] at h1; simp [zeroDot] at h1
  have refz : c.ref = zeroDot ∨ knows s.know c.ref = true := by
    have ha := h.ok
    simp only [actOk, Bool.and_eq_true] at ha
    have hr := ha.2
    unfold actRef at hr
    have k6 : (actRaw s rep time e).kind = 6 := hk
    rw [if_neg (by rw [k6]; decide), if_pos (by rw [k6]; rfl), Bool.or_eq_true] at hr
    have cr : (actRaw s rep time e).ref = c.ref := by rw [hc]; rfl
    rw [cr] at hr
    rcases hr with hr | hr
    · left
      simp only [refZ, Bool.and_eq_true, beq_iff_eq] at hr
      exact GDot.ext hr.1 hr.2
    · right; exact hr
  have N : Newest s.cs (doneAct s (actRaw s rep time e)).cs c := by
    refine ⟨rowF_of (of_sok h.s0), rowF_of (of_sok hT), fun x => by rw [e1, insF_mem], fun x hx => ?_, fun x hx q => ?_, fun q => ?_⟩
    · obtain ⟨j, hj, rfl⟩ := mem_nth hx
      have h1 := timeK_ge s.cs s.cs.length j hj
      have h2 : timeK s.cs s.cs.length < time := h.t
      rw [hc]; show (nth s.cs j).time < time; omega
    · rcases h.s0.c4 x hx with g | ⟨y, hy, g, _, _⟩
      · rw [g] at q; exact cz q.symm
      · have := (h.s0.c2 y hy).1
        rw [g, q, hn] at this; cases this
    · rcases refz with g | g
      · rw [g] at q; exact cz q.symm
      · rw [q, hn] at g; cases g
  have hco : c.obj = e.obj := by rw [hc]
  have hcv : c.val = e.val := by rw [hc]
  have hcg : c.gone = false := by rw [hc]
  have hrow : row (doneAct s (actRaw s rep time e)) e.obj = (if zeroDot = c.ref then [c] else []) ++ insAft c.ref c (row s e.obj) := by
    rw [row_eq hT, row_eq h.s0]
    have := pre_new N (n := 10001) (q := zeroDot) (.inl ⟨rfl, by omega⟩)
    rw [hco] at this
    exact this
  obtain ⟨nd, nz⟩ := row_nodup h.s0 e.obj
  have hpl := h.pl
  have hcr : c.ref = (actPlace s e).1 := by rw [hc]
  by_cases p0 : 0 < e.place
  · have e2 : actPlace s e = placeIn s e.obj (e.place - 1) := by unfold actPlace; rw [if_pos ⟨hk, p0⟩]
    rw [e2] at hpl hcr
    have hlt : 0 ≤ e.place - 1 ∧ e.place - 1 < (rowLive s e.obj).length := by
      unfold placeIn at hpl
      split at hpl
      · assumption
      · cases hpl
    have hcr2 : c.ref = (nth (rowLive s e.obj) (e.place - 1).toNat).dot := by
      rw [hcr]; unfold placeIn; rw [if_pos hlt]
    obtain ⟨j, hj⟩ : ∃ j : Nat, j = (e.place - 1).toNat := ⟨_, rfl⟩
    rw [← hj] at hcr2
    have hjl : j < (rowLive s e.obj).length := by omega
    have hm : nth (rowLive s e.obj) j ∈ rowLive s e.obj := nth_mem hjl
    have hmr := (List.mem_filter.1 hm).1
    have hrz : ¬ zeroDot = c.ref := fun q => nz _ hmr (by rw [← hcr2, ← q])
    have hlive : rowLive (doneAct s (actRaw s rep time e)) e.obj = insAft c.ref c (rowLive s e.obj) := by
      unfold rowLive
      rw [hrow, if_neg hrz, List.nil_append, insAft_live hcg]
      intro x hx q
      have hxx : x = nth (rowLive s e.obj) j := nodup_injC nd hx hmr (by rw [q, hcr2])
      rw [hxx]
      have := (List.mem_filter.1 hm).2
      simpa using this
    have hat := insAft_at (c := c) (l := rowLive s e.obj) (j := j) (nd.sublist (List.filter_sublist.map _)) hjl hcr2.symm
    have hpj : e.place.toNat = j + 1 := by omega
    unfold rowOf
    rw [hlive, hat, hpj]
    have hlen : ((rowLive s e.obj).take (j + 1) ++ c :: (rowLive s e.obj).drop (j + 1)).length = (rowLive s e.obj).length + 1 := by
      simp only [List.length_append, List.length_take, List.length_cons, List.length_drop]; omega
    refine ⟨by rw [List.length_map, List.length_map, hlen], by rw [List.length_map, hlen]; omega, ?_⟩
    rw [nth_map' _ (by rw [hlen]; omega)]
    have : nth ((rowLive s e.obj).take (j + 1) ++ c :: (rowLive s e.obj).drop (j + 1)) (j + 1) = c := by
      unfold nth
      rw [List.getD_eq_getElem?_getD, List.getElem?_append_right (by rw [List.length_take]; omega)]
      have : j + 1 - ((rowLive s e.obj).take (j + 1)).length = 0 := by rw [List.length_take]; omega
      rw [this]; simp
    rw [this, hcv]
  · have e2 : actPlace s e = (zeroDot, true) := by
      unfold actPlace
      rw [if_neg (by omega), if_neg (by omega)]
    have hcr2 : c.ref = zeroDot := by rw [hcr, e2]
    have hp : e.place.toNat = 0 := by omega
    have hlive : rowLive (doneAct s (actRaw s rep time e)) e.obj = c :: rowLive s e.obj := by
      unfold rowLive
      rw [hrow, if_pos hcr2.symm, hcr2, insAft_none nz]
      show (c :: row s e.obj).filter _ = _
      rw [List.filter_cons_of_pos (by simp [hcg])]
    unfold rowOf
    rw [hlive, hp]
    refine ⟨by simp, by simp, ?_⟩
    show c.val = e.val
    exact hcv
theorem wish7 {s : GState} {rep time : Int} {e : GEdit} (h : Wish s rep time e) (hk : e.kind = 7) : (rowOf (doAct s (actOf s rep time e).1).1 e.obj).length + 1 = (rowOf s e.obj).length := by
  rw [h.done]
  have hT : SOK (doneAct s (actRaw s rep time e)) := done_sok h.d
  have hpl := h.pl
  have e2 : actPlace s e = placeIn s e.obj e.place := by unfold actPlace; rw [if_neg (by omega), if_pos hk]
  rw [e2] at hpl
  have hlt : 0 ≤ e.place ∧ e.place < (rowLive s e.obj).length := by
    unfold placeIn at hpl
    split at hpl
    · assumption
    · cases hpl
  obtain ⟨j, hj⟩ : ∃ j : Nat, j = e.place.toNat := ⟨_, rfl⟩
  have hjl : j < (rowLive s e.obj).length := by omega
  have hm : nth (rowLive s e.obj) j ∈ rowLive s e.obj := nth_mem hjl
  obtain ⟨x, hx⟩ : ∃ x, x = nth (rowLive s e.obj) j := ⟨_, rfl⟩
  rw [← hx] at hm
  have hmr := (List.mem_filter.1 hm).1
  have hmg := (List.mem_filter.1 hm).2
  have href : (actRaw s rep time e).ref = x.dot := by
    show (actPlace s e).1 = x.dot
    rw [e2, hx, hj]; unfold placeIn; rw [if_pos hlt]
  have hxc : x ∈ s.cs := row_mem hmr
  have hca := cellAt_of h.s0.c3 hxc
  obtain ⟨i, hi, hix⟩ := mem_nth hxc
  have hri : refAtI s (actRaw s rep time e) = (cellAt s.cs x.dot).toNat := by unfold refAtI; rw [href]
  have e1 : (doneAct s (actRaw s rep time e)).cs = s.cs.set (cellAt s.cs x.dot).toNat { x with gone := true } := by
    unfold doneAct
    rw [hri, hca.2]
    have k7 : (actRaw s rep time e).kind = 7 := hk
    simp [k7]
  have hlt2 : (cellAt s.cs x.dot).toNat < s.cs.length := by
    rcases cellAt_cases s.cs x.dot with g | ⟨m, hm, g⟩
    · omega
    · rw [g]; omega
  have hmm : ∀ z, z ∈ (doneAct s (actRaw s rep time e)).cs ↔ ∃ y, y ∈ s.cs ∧ z = goneG x.dot y := by
    intro z
    rw [e1]
    constructor
    · intro hz
      obtain ⟨m, hm, rfl⟩ := mem_nth hz
      rw [List.length_set] at hm
      rw [nth_setL]
      split
      · exact ⟨x, hxc, by unfold goneG; rw [if_pos rfl]⟩
      · rename_i hne
        refine ⟨nth s.cs m, nth_mem hm, ?_⟩
        unfold goneG
        rw [if_neg]
        intro q
        have hxe := cells_one h.s0.c3 (nth_mem hm) hxc q
        have := cellAt_self h.s0 hm
        rw [hxe] at this
        exact hne ⟨by omega, hlt2⟩
    · rintro ⟨y, hy, rfl⟩
      unfold goneG
      split
      · rename_i q
        rw [cells_one h.s0.c3 hy hxc q]
        exact set_memI hlt2 _
      · rename_i q
        obtain ⟨m, hm, rfl⟩ := mem_nth hy
        have hne : ¬ m = (cellAt s.cs x.dot).toNat := fun g => q (by rw [g, hca.2])
        have : nth (s.cs.set (cellAt s.cs x.dot).toNat { x with gone := true }) m = nth s.cs m := by rw [nth_setL, if_neg (by omega)]
        rw [← this]
        exact nth_mem (by rw [List.length_set]; exact hm)
  have hrow : row (doneAct s (actRaw s rep time e)) e.obj = (row s e.obj).map (goneG x.dot) := by
    rw [row_eq hT, row_eq h.s0]
    exact pre_gone (rowF_of (of_sok h.s0)) (rowF_of (of_sok hT)) hmm e.obj 10001 zeroDot
  unfold rowOf rowLive
  rw [List.length_map, List.length_map, hrow]
  exact gone_count (row_nodup h.s0 e.obj).1 ⟨x, hmr, rfl, by simpa using hmg⟩
end Am
namespace Am
open Go
set_option linter.unusedSimpArgs false
set_option linter.unusedVariables false

theorem grS_time {s : GState} (h : SOK s) (c : GCur) : timeOf (grS s c) ≤ timeOf s + 2 := by
  have h0 := (timeOf_bd h).1
  have hb := curN_bd (editD (curN c 3).2).2 (n := 2) (by decide)
  unfold grS
  split
  · rename_i hc
    rcases actOf_cases s (curN c 3).1 (timeOf s + 1 + (curN (editD (curN c 3).2).2 2).1) (editD (curN c 3).2).1 with ⟨_, _, _, _, h4⟩ | ⟨h1, _⟩
    · by_cases hd : (doAct s (grAct s c).1).2 = 0
      · obtain ⟨d1, d2⟩ := done_of hd
        rw [d2]
        refine timeOf_le (by omega) fun x hx => ?_
        rcases done_time d1 hx with ⟨y, hy, e⟩ | e
        · have := time_le hy; omega
        · have e2 : (grAct s c).1.time = timeOf s + 1 + (curN (editD (curN c 3).2).2 2).1 := by
            show (actOf _ _ _ _).1.time = _
            rw [h4]; rfl
          rw [e, e2]; omega
      · rw [doAct_same hd]; omega
    · exact absurd hc h1
  · omega
theorem grown_time {s : GState} (h : SOK s) (c : GCur) : ∀ i : Nat, timeOf (grownK c s i).1 ≤ timeOf s + 2 * i
  | 0 => by simp [grownK]
  | i + 1 => by
    have h1 := grown_time h c i
    have h2 := grS_time (grownK_sok h c i) (grownK c s i).2
    show timeOf (grS _ _) ≤ _
    push_cast
    omega
theorem stateD_time (c : GCur) : timeOf (stateD c).1 ≤ 20 := by
  have hb := curN_bd c (n := 9) (by decide)
  have h1 := grown_time (s := stateNew) stateNew_sok (curN c 9).2 (2 + (curN c 9).1).toNat
  have h2 : timeOf stateNew = 0 := rfl
  show timeOf (grownK _ _ _).1 ≤ 20
  omega
/-- No more is known than acts were done. -/
theorem know_len {D : List GAct} {s : GState} (h : Canon D s) {r : Nat} (hr : r < 3) : nth s.know r ≤ D.length := by
  obtain ⟨k3, kb⟩ := knowOk_len h.sok.k
  have hb := kb r hr
  obtain ⟨m, hm⟩ := Int.eq_ofNat_of_zero_le hb.1
  rw [hm]
  have hn : (((List.range m).map fun i : Nat => (⟨(r : Int), (i : Int) + 1⟩ : GDot))).Nodup := by
    unfold List.Nodup
    rw [List.pairwise_map]
    refine List.nodup_range.imp fun {a b} hab e => hab ?_
    have := congrArg GDot.seq e
    simp only at this
    omega
  have := nodup_len (m := D.map (·.dot)) hn (fun d hd => by
    obtain ⟨i, hi, rfl⟩ := List.mem_map.1 hd
    have hi := List.mem_range.1 hi
    have hk : knows s.know ⟨(r : Int), (i : Int) + 1⟩ = true := by
      simp only [knows, h.sok.k, dotOk, spIn, Bool.true_and, Bool.and_eq_true, decide_eq_true_eq]
      rw [Int.toNat_natCast, hm]
      omega
    obtain ⟨a, ha, e⟩ := (h.know _).1 hk
    exact List.mem_map.2 ⟨a, ha, e⟩)
  simp only [List.length_map, List.length_range] at this
  omega
/-- What a right wish at a drawn state comes to. -/
theorem drawn_wish (c d : GCur) {rep : Int} (hr : 0 ≤ rep ∧ rep ≤ 2) : ((actOf (stateD c).1 rep (timeOf (stateD c).1 + 1) (editD d).1).2 = 0 ∧ (doAct (stateD c).1 (actOf (stateD c).1 rep (timeOf (stateD c).1 + 1) (editD d).1).1).2 = 0 ∧ Wish (stateD c).1 rep (timeOf (stateD c).1 + 1) (editD d).1) ∨ ((actOf (stateD c).1 rep (timeOf (stateD c).1 + 1) (editD d).1).2 = 5 ∧ 6 ≤ (editD d).1.kind) := by
  obtain ⟨D, hD, hl⟩ := canon_stateD c
  have hs := hD.sok
  have ht := stateD_time c
  have h0 := (timeOf_bd hs).1
  have t1 := canon_tallies hD
  have t2 := canon_lives hD
  have t3 := canon_cells hD
  have hk := know_len hD (r := rep.toNat) (by omega)
  obtain ⟨g1, _⟩ := editD_good d
  have hp : actPre (stateD c).1 rep (timeOf (stateD c).1 + 1) (editD d).1 = true := by
    simp only [actPre, spIn, Bool.and_eq_true, decide_eq_true_eq]
    refine ⟨⟨⟨⟨of_sok hs, g1⟩, by omega⟩, by omega⟩, by omega⟩
  rcases actOf_code hs hp with h | h
  · left
    have hd := actOf_done hs h (by omega) (by omega) (by omega) (by omega)
    exact ⟨h, hd, wish_of hs h (by omega) hd⟩
  · exact .inr h
end Am
