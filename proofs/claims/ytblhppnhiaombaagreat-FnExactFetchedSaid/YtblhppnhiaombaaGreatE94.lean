/- Graphs copied: of both. No condition. -/
import Derived.Test.YtblhppnhiaombaaGreatT
import Derived.Test.YtblhppnhiaombaaGreatD
import Derived.Test.YtblhppnhiaombaaGreatE90
import Derived.Test.YtblhppnhiaombaaGreatE24c
import Derived.Test.YtblhppnhiaombaaGreatAm36
import Derived.Test.YtblhppnhiaombaaGreatY3
namespace Am
open Go Go.Proofs
open Cel (cells)
set_option maxRecDepth 100000
set_option linter.unusedSimpArgs false
set_option linter.unusedVariables false

def takeG (g : GGraph) (i : Nat) : List GCommit := g.commits.take i
theorem takeG_len {g : GGraph} {i : Nat} (h : i ≤ g.commits.length) : (takeG g i).length = i := by simp [takeG]; omega
theorem takeG_succ {g : GGraph} {i : Nat} (h : i < g.commits.length) : takeG g (i + 1) = takeG g i ++ [nth g.commits i] := by
  rw [takeG, List.take_add_one, List.getElem?_eq_getElem h, nth_eq h]; rfl
theorem takeG_all (g : GGraph) : takeG g g.commits.length = g.commits := List.take_of_length_le (Nat.le_refl _)

@[simp] def h106 : Hts := { merge := fun _ => false, mergeF := fun _ => false, dr := fun id => if id = 5 then [{ mn := [1408, 1600, 1601, 1602, 1603], mb := [22, 25, 27] }, { mn := [1408, 1600, 1601, 1602, 1603], mb := [22, 25, 27] }, { mb := [22, 25] }, { mb := [22, 25] }, {}, {}, { cr := true }, { mb := [22] }, { mb := [22] }, { cr := true }, {}, { wr := [1408, 1600, 1601, 1602, 1603], cr := true }, { wr := [1088, 900001, 1728], cr := true }, {}, { wr := [192] }] else [] }
set_option maxHeartbeats 4000000 in
theorem f106_ok (g : GGraph) (hg : g.Ok) : FnR Tryz.prog 106 [.agg [.im g.commits.length (flat g.commits), .int .i64 g.head]] (.agg [.ow 129 7 g.commits.length (flatO g.commits), .int .i64 g.head]) := by
  simp only [GGraph.Ok] at hg
  refine FnW.of_AW TryzT_ok 0 (fn := Tryz.f106) (by kernel_rfl) rfl (by kernel_rfl) rfl rfl rfl ?_; refine AW_of h106 TryzT_ok (by kernel_rfl) ?_
  simp -dsimp
  refine AWh_loop (fun i : Nat => i ≤ g.commits.length) (fun i => mkE [(2, .box 128 0), (3, .box 192 0), (10, .c (.im g.commits.length (flat g.commits))), (11, .c (.int .i64 g.commits.length)), (12, .c (.int .i64 i))] [(900001, .arr 0 129 7 (takeG g i).length (flatO (takeG g i))), (128, .box [.nil, .c (.int .i64 0)]), (192, .box [.arr 900001, .c (.int .i64 g.head)])]) (fun i => g.commits.length - i) 0 (Wk_toA [2, 3, 10, 11, 12] [(128, 128), (192, 192)] [.cell 192 0 900001 129 7] rfl rfl (by simp [takeG])) (by simp) ?_
  rintro i hi
  have hll := takeG_len hi
  refine AW_of h106 TryzT_ok (by kernel_rfl) ?_
  rcases Nat.lt_or_ge i g.commits.length with h1 | h1
  · have hc := hg.2 _ (nth_mem h1)
    simp only [GCommit.Ok] at hc
    have hs := takeG_succ h1
    simp -dsimp [h1, ne_of_lt h1]
    repeat (first | refine ⟨by omega, ?_⟩ | refine ⟨by simp [capMax]; omega, ?_⟩ | refine ⟨⟨by omega, by omega⟩, ?_⟩)
    refine ACallK_of (f196_ok _ hc.1) ?_
    simp -dsimp
    refine ACallK_of (f110_ok _ hc.2) ?_
    simp -dsimp
    repeat (first | refine ⟨by omega, ?_⟩ | refine ⟨by simp [capMax]; omega, ?_⟩ | refine ⟨⟨by omega, by omega⟩, ?_⟩)

    have ha : flatO (takeG g i ++ [nth g.commits i]) = flatO (takeG g i) ++ CelO.cellsO (nth g.commits i) := by rw [flatO_append, flatO_cons, flatO_nil, List.append_nil]
    exact Back_of (i + 1) [2, 3, 10, 11, 12] [(900001, 1792), (128, 128), (192, 192)] rfl rfl (by simp [hs, ha]; rw [wrap64 (by omega) (by omega)]) (by omega) (by omega)
  · obtain rfl : i = g.commits.length := by omega
    simp -dsimp
    simp [takeG_all]

@[simp] def h97 : Hts := { merge := fun _ => false, mergeF := fun _ => false, dr := fun id => if id = 6 then [{ mn := [1600, 1792, 1984, 1985, 1986, 1987], mb := [25, 28, 31, 33] }, { mn := [1600, 1792, 1984, 1985, 1986, 1987], mb := [25, 28, 31, 33] }, { mn := [1600], mb := [25, 28, 31] }, { mn := [1600], mb := [25, 28, 31] }, { cr := true }, { mb := [25] }, { mb := [25] }, { wr := [1600], cr := true }, { mn := [1600], mb := [25, 28] }, { mn := [1600], mb := [25, 28] }, { cr := true }, {}, { wr := [1792, 1984, 1985, 1986, 1987], cr := true }, { wr := [1408, 900001, 2112], cr := true }, {}, { wr := [192] }] else [] }
set_option maxHeartbeats 4000000 in
theorem f97_ok (g : GGraph) (hg : g.Ok) : FnR Tryz.prog 97 [.agg [.im g.commits.length (flat g.commits), .int .i64 g.head]] (.agg [.ow 129 7 g.commits.length (flatO g.commits), .int .i64 g.head]) := by
  simp only [GGraph.Ok] at hg
  refine FnW.of_AW TryzT_ok 0 (fn := Tryz.f97) (by kernel_rfl) rfl (by kernel_rfl) rfl rfl rfl ?_; refine AW_of h97 TryzT_ok (by kernel_rfl) ?_
  simp -dsimp
  refine AWh_loop (fun i : Nat => i ≤ g.commits.length) (fun i => mkE [(1, .box 64 0), (2, .box 128 0), (3, .box 192 0), (4, .c (.int .i64 i))] [(900001, .arr 0 129 7 (takeG g i).length (flatO (takeG g i))), (64, .box [.c (.im g.commits.length (flat g.commits)), .c (.int .i64 g.head)]), (128, .box [.nil, .c (.int .i64 0)]), (192, .box [.arr 900001, .c (.int .i64 g.head)])]) (fun i => g.commits.length - i) 0 (Wk_toA [1, 2, 3, 4] [(64, 64), (128, 128), (192, 192)] [.cell 192 0 900001 129 7] rfl rfl (by simp [takeG])) (by simp) ?_
  rintro i hi
  have hll := takeG_len hi
  refine AW_of h97 TryzT_ok (by kernel_rfl) ?_
  rcases Nat.lt_or_ge i g.commits.length with h1 | h1
  · have hc := hg.2 _ (nth_mem h1)
    simp only [GCommit.Ok] at hc
    have hs := takeG_succ h1
    simp -dsimp [h1, ne_of_lt h1]
    repeat (first | refine ⟨by omega, ?_⟩ | refine ⟨by simp [capMax]; omega, ?_⟩ | refine ⟨⟨by omega, by omega⟩, ?_⟩)
    refine ACallK_of (f102_ok _ hc.2) ?_
    simp -dsimp
    repeat (first | refine ⟨by omega, ?_⟩ | refine ⟨by simp [capMax]; omega, ?_⟩ | refine ⟨⟨by omega, by omega⟩, ?_⟩)
    have ha : flatO (takeG g i ++ [nth g.commits i]) = flatO (takeG g i) ++ CelO.cellsO (nth g.commits i) := by rw [flatO_append, flatO_cons, flatO_nil, List.append_nil]
    exact Back_of (i + 1) [1, 2, 3, 4] [(900001, 2176), (64, 64), (128, 128), (192, 192)] rfl rfl (by simp [hs, ha]; rw [wrap64 (by omega) (by omega)]) (by omega) (by omega)
  · obtain rfl : i = g.commits.length := by omega
    simp -dsimp
    simp [takeG_all]
end Am
namespace Am
open Go Go.Proofs
open Cel (cells)
set_option maxRecDepth 100000
set_option linter.unusedSimpArgs false
set_option linter.unusedVariables false

/-- what is put out of the rest of a list -/
def putGoI (s : Int) : Bool → List Int → List Int
  | p, [] => if p then [] else [s]
  | p, x :: r => if !p && decide (s < x) then s :: x :: putGoI s true r else x :: putGoI s p r
def hasI (s : Int) (l : List Int) : Bool := l.any fun x => decide (x = s)
def putI (l : List Int) (s : Int) : List Int := if hasI s l then l else putGoI s false l
theorem putGoI_len (s : Int) : ∀ (p : Bool) (l : List Int), (putGoI s p l).length = l.length + (if p then 0 else 1)
  | true, [] => rfl
  | false, [] => rfl
  | true, x :: r => by simp [putGoI, putGoI_len s true r]
  | false, x :: r => by
    simp only [putGoI]
    split
    · simp [putGoI_len s true r]
    · simp [putGoI_len s false r]
theorem hasI_at {s : Int} {l : List Int} {i : Nat} (h : i < l.length) (he : nth l i = s) : hasI s l = true := by
  simp only [hasI, List.any_eq_true, decide_eq_true_eq]
  exact ⟨nth l i, nth_mem h, he⟩
theorem hasI_none {s : Int} {l : List Int} (h : ∀ j : Nat, j < l.length → nth l j ≠ s) : hasI s l = false := by
  cases hh : hasI s l
  · rfl
  · simp only [hasI, List.any_eq_true, decide_eq_true_eq] at hh
    obtain ⟨x, hx, rfl⟩ := hh
    obtain ⟨j, hj, e⟩ := List.getElem_of_mem hx
    exact absurd (by rw [nth_eq hj, e]) (h j hj)

@[simp] def h103 : Hts := { merge := fun _ => false }
set_option maxHeartbeats 1000000 in
theorem f103_ok (l : List Int) (s : Int) (ha : l.length ≤ 1073741824) : FnW Tryz.prog 103 [.v (.ow 3 1 l.length (flat l)), .v (.int .i64 s)] (.v (.ow 3 1 (putI l s).length (flat (putI l s)))) [.any, .any] := by
  refine FnW.of_AW TryzT_ok 0 (fn := Tryz.f103) (by kernel_rfl) rfl (by kernel_rfl) rfl rfl rfl ?_; refine AW_of h103 TryzT_ok (by kernel_rfl) ?_
  simp -dsimp
  refine AWh_loop (fun q : Nat × Bool × List Int => q.1 ≤ l.length ∧ q.2.2.length ≤ q.1 + (bif q.2.1 then 1 else 0) ∧ (∀ j : Nat, j < q.1 → nth l j ≠ s) ∧ q.2.2 ++ putGoI s q.2.1 (l.drop q.1) = putGoI s false l) (fun q => mkE [(0, .arr 640000), (1, .c (.int .i64 s)), (5, .arr 512), (6, .c (.bool q.2.1)), (7, .c (.int .i64 q.1))] [(640000, .arr 0 3 1 l.length (flat l)), (512, .arr 0 3 1 q.2.2.length (flat q.2.2))]) (fun q => l.length - q.1) (0, false, []) (Wk_to [0, 1, 5, 6, 7] [(640000, 640000), (512, 512)] rfl rfl (by simp)) (by simp) ?_
  rintro ⟨i, p, out⟩ ⟨hi, hl, hne, hgo⟩
  simp only at hi hl hne hgo
  refine AW_of h103 TryzT_ok (by kernel_rfl) ?_
  rcases Nat.lt_or_ge i l.length with h1 | h1
  · have hd : l.drop i = nth l i :: l.drop (i + 1) := by rw [List.drop_eq_getElem_cons h1, ← nth_eq h1]
    rw [hd] at hgo
    have hw : IntKind.i64.wrap ((i : Int) + 1) = (i : Int) + 1 := wrap64 (by omega) (by omega)
    by_cases e : nth l i = s
    · have e1 : (nth l i == s) = true := by simp [e]
      simp -dsimp [h1, ne_of_lt h1, e1]
      repeat (first | refine ⟨by omega, ?_⟩ | refine ⟨by simp [capMax]; omega, ?_⟩ | refine ⟨⟨by omega, by omega⟩, ?_⟩)
      rw [putI, if_pos (hasI_at h1 e)]
      exact ⟨rfl, rfl⟩
    · have e1 : (nth l i == s) = false := by simp [e]
      have hnext : ∀ j : Nat, j < i + 1 → nth l j ≠ s := fun j hj => by
        by_cases e2 : j = i
        · subst e2; exact e
        · exact hne j (by omega)
      cases p with
      | true =>
        simp only [cond_true] at hl
        simp -dsimp [h1, ne_of_lt h1, e1, hw]
        repeat (first | refine ⟨by omega, ?_⟩ | refine ⟨by simp [capMax]; omega, ?_⟩)
        exact Back_of (i + 1, true, out ++ [nth l i]) [0, 1, 5, 6, 7] [(640000, 640000), (512, 2688)] rfl rfl (by simp) ⟨by simp only; omega, by simp; omega, hnext, by rw [← hgo]; simp [putGoI]⟩ (by simp only; omega)
      | false =>
        simp only [cond_false] at hl
        by_cases g : s < nth l i
        · have gs : decide (s < nth l i) = true := by simp [g]
          simp -dsimp [h1, ne_of_lt h1, e1, g, hw]
          repeat (first | refine ⟨by omega, ?_⟩ | refine ⟨by simp [capMax]; omega, ?_⟩)
          exact Back_of (i + 1, true, out ++ [s] ++ [nth l i]) [0, 1, 5, 6, 7] [(640000, 640000), (512, 2688)] rfl rfl (by simp) ⟨by simp only; omega, by simp; omega, hnext, by rw [← hgo]; simp [putGoI, gs]⟩ (by simp only; omega)
        · have gs : decide (s < nth l i) = false := by simp [g]
          simp -dsimp [h1, ne_of_lt h1, e1, g, hw]
          repeat (first | refine ⟨by omega, ?_⟩ | refine ⟨by simp [capMax]; omega, ?_⟩)
          exact Back_of (i + 1, false, out ++ [nth l i]) [0, 1, 5, 6, 7] [(640000, 640000), (512, 2688)] rfl rfl (by simp) ⟨by simp only; omega, by simp; omega, hnext, by rw [← hgo]; simp [putGoI, gs]⟩ (by simp only; omega)
  · obtain rfl : i = l.length := by omega
    rw [List.drop_length] at hgo
    have hno := hasI_none hne
    cases p with
    | true =>
      simp only [cond_true] at hl
      have e : out = putI l s := by rw [putI, hno, ← hgo]; simp [putGoI]
      simp -dsimp
      rw [← e]
      exact ⟨rfl, rfl⟩
    | false =>
      simp only [cond_false] at hl
      have e : out ++ [s] = putI l s := by rw [putI, hno, ← hgo]; simp [putGoI]
      simp -dsimp
      refine ⟨by simp [capMax]; omega, ?_⟩
      rw [← e]
      exact ⟨by simp, rfl⟩

end Am
namespace Am
open Go
set_option linter.unusedSimpArgs false
set_option linter.unusedVariables false

theorem setK_mono (m : List Bool) (us : List Int) {y : Nat} (h : nth m y = true) : ∀ j, nth (setK m us j) y = true
  | 0 => h
  | j + 1 => by
    rw [setK, nth_set]
    split
    · rfl
    · exact setK_mono m us h j
theorem setK_mark (m : List Bool) (us : List Int) {i : Nat} (hl : (nth us i).toNat < m.length) : ∀ j, i < j → nth (setK m us j) (nth us i).toNat = true
  | 0, h => by omega
  | j + 1, h => by
    rw [setK, nth_set]
    by_cases e : i = j
    · subst e; rw [if_pos ⟨rfl, by rw [setK_len]; exact hl⟩]
    · split
      · rfl
      · exact setK_mark m us hl j (by omega)
theorem stepU_mono (g : GGraph) (m : List Bool) (i : Nat) {y : Nat} (h : nth m y = true) : nth (stepU g m i) y = true := by
  unfold stepU
  split
  · exact setK_mono m _ h _
  · exact h
theorem runM_mono (g : GGraph) (m : List Bool) (n d : Nat) {y : Nat} (h : nth (runM g m n d) y = true) : ∀ e, nth (runM g m n (d + e)) y = true
  | 0 => h
  | e + 1 => by rw [← Nat.add_assoc, runM]; exact stepU_mono _ _ _ (runM_mono g m n d h e)
theorem marks_closed {g : GGraph} (hu : upsLt g) {k x : Nat} (hk : k < g.commits.length) (hx : x ≤ k) (h : nth (marks g k) x = true) {j : Nat} (hj : j < (upsOf g x).length) : nth (marks g k) (nth (upsOf g x) j).toNat = true := by
  have hlt := hu x (by omega) j hj
  have hat := runM_at hu (n := k + 1) (by omega) (startM (k + 1) k) (d := k - x) (by omega)
  rw [show k + 1 - 1 - (k - x) = x by omega] at hat
  have h1 : nth (runM g (startM (k + 1) k) (k + 1) (k - x)) x = true := hat.trans h
  have h2 : nth (runM g (startM (k + 1) k) (k + 1) (k - x + 1)) (nth (upsOf g x) j).toNat = true := by
    rw [runM, show k + 1 - 1 - (k - x) = x by omega, stepU, if_pos h1]
    exact setK_mark _ _ (by simp; omega) _ hj
  have := runM_mono g (startM (k + 1) k) (k + 1) (k - x + 1) h2 x
  rw [show k - x + 1 + x = k + 1 by omega] at this
  exact this
theorem markF_sorted (p : Nat → Bool) : ∀ n, (markF p n).Pairwise (· < ·)
  | 0 => List.Pairwise.nil
  | n + 1 => by
    rw [markF]
    split
    · rw [List.pairwise_append]
      refine ⟨markF_sorted p n, by simp, ?_⟩
      intro a ha b hb
      obtain ⟨i, h1, _, h2⟩ := markF_mem.1 ha
      simp only [List.mem_singleton] at hb
      omega
    · exact markF_sorted p n
theorem upsL_F (g : GGraph) (k : Nat) : upsL g k = markF (nth (marks g k)) (k + 1) := markK_F _ _
theorem upsL_at {g : GGraph} {k i : Nat} (h : i < (upsL g k).length) : ∃ x : Nat, x ≤ k ∧ nth (marks g k) x = true ∧ nth (upsL g k) i = x := by
  have hm := nth_mem h
  generalize nth (upsL g k) i = y at hm ⊢
  rw [upsL_F] at hm
  obtain ⟨x, h1, h2, h3⟩ := markF_mem.1 hm
  exact ⟨x, by omega, h2, h3⟩
theorem upsL_before {g : GGraph} {k i x u : Nat} (h : i < (upsL g k).length) (ex : nth (upsL g k) i = x) (hu : u < x) (hm : nth (marks g k) u = true) : ∃ j : Nat, j < i ∧ nth (upsL g k) j = u := by
  have hxk : x ≤ k := by obtain ⟨x', h1, _, h3⟩ := upsL_at h; omega
  have hmem : (u : Int) ∈ upsL g k := by rw [upsL_F]; exact markF_mem.2 ⟨u, by omega, hm, rfl⟩
  obtain ⟨j, hj, ej⟩ := List.mem_iff_getElem.1 hmem
  refine ⟨j, ?_, by rw [nth_eq hj, ej]⟩
  rcases Nat.lt_or_ge j i with h1 | h1
  · exact h1
  · have hp : (upsL g k).Pairwise (· < ·) := by rw [upsL_F]; exact markF_sorted _ _
    rw [nth_eq h] at ex
    rcases Nat.lt_or_ge i j with h2 | h2
    · have := List.pairwise_iff_getElem.1 hp i j h hj h2
      omega
    · have : i = j := by omega
      subst this; omega

def atC (cs : List GCommit) (d : GDot) : Int := idx (fun c : GCommit => decide (c.id = d)) cs
theorem atId_eq (g : GGraph) (d : GDot) : atId g d = atC g.commits d := rfl
theorem atC_cases (cs : List GCommit) (d : GDot) : (∃ i : Nat, i < cs.length ∧ (nth cs i).id = d ∧ (∀ j : Nat, j < i → (nth cs j).id ≠ d) ∧ atC cs d = i) ∨ ((∀ j : Nat, j < cs.length → (nth cs j).id ≠ d) ∧ atC cs d = -1) := by
  have key : ∀ n : Nat, n ≤ cs.length → (∃ i : Nat, i < n ∧ (nth cs i).id = d ∧ ∀ j : Nat, j < i → (nth cs j).id ≠ d) ∨ ∀ j : Nat, j < n → (nth cs j).id ≠ d := by
    intro n
    induction n with
    | zero => intro _; right; intro j hj; omega
    | succ n ih =>
      intro hn
      rcases ih (by omega) with ⟨i, h1, h2, h3⟩ | h
      · exact Or.inl ⟨i, by omega, h2, h3⟩
      · by_cases e : (nth cs n).id = d
        · exact Or.inl ⟨n, by omega, e, h⟩
        · right; intro j hj
          by_cases e2 : j = n
          · subst e2; exact e
          · exact h j (by omega)
  rcases key cs.length (Nat.le_refl _) with ⟨i, h1, h2, h3⟩ | h
  · exact Or.inl ⟨i, h1, h2, h3, idx_here h1 (fun j hj => by simp [h3 j hj]) (by simp [h2])⟩
  · exact Or.inr ⟨h, idx_none (fun j hj => by simp [h j hj])⟩
theorem atC_lt (cs : List GCommit) (d : GDot) : atC cs d < cs.length := by
  rcases atC_cases cs d with ⟨i, h1, _, _, h4⟩ | ⟨_, h⟩
  · omega
  · omega
theorem atC_ge (cs : List GCommit) (d : GDot) : -1 ≤ atC cs d := by
  rcases atC_cases cs d with ⟨i, h1, _, _, h4⟩ | ⟨_, h⟩
  · omega
  · omega
theorem atC_id {cs : List GCommit} {d : GDot} (h : 0 ≤ atC cs d) : (nth cs (atC cs d).toNat).id = d := by
  rcases atC_cases cs d with ⟨i, h1, h2, _, h4⟩ | ⟨_, h'⟩
  · rw [h4]; exact h2
  · omega
theorem atC_old {cs : List GCommit} {d : GDot} (y : GCommit) (h : 0 ≤ atC cs d) : atC (cs ++ [y]) d = atC cs d := by
  rcases atC_cases cs d with ⟨i, h1, h2, h3, h4⟩ | ⟨_, h'⟩
  · rw [h4]
    exact idx_here (by simp; omega) (fun j hj => by rw [nth_append_left (by omega)]; simp [h3 j hj]) (by rw [nth_append_left h1]; simp [h2])
  · omega
theorem atC_new {cs : List GCommit} {y : GCommit} (h : atC cs y.id < 0) : atC (cs ++ [y]) y.id = cs.length := by
  rcases atC_cases cs y.id with ⟨i, h1, h2, h3, h4⟩ | ⟨h5, h'⟩
  · omega
  · exact idx_here (by simp) (fun j hj => by rw [nth_append_left (by omega)]; simp [h5 j hj]) (by rw [nth_append_right (Nat.le_refl _)]; simp [nth])

def upK (h : GGraph) (cs : List GCommit) (us : List Int) : Nat → List Int
  | 0 => []
  | j + 1 => upK h cs us j ++ [atC cs (nth h.commits (nth us j).toNat).id]
@[simp] theorem upK_len (h : GGraph) (cs : List GCommit) (us : List Int) : ∀ j, (upK h cs us j).length = j
  | 0 => rfl
  | j + 1 => by simp [upK, upK_len h cs us j]
def fetY (h : GGraph) (cs : List GCommit) (x : Nat) : GCommit := ⟨(nth h.commits x).id, sortI (upK h cs (upsOf h x) (upsOf h x).length), (nth h.commits x).state⟩
def fetC (h : GGraph) (cs : List GCommit) (x : Nat) : List GCommit := if 0 ≤ atC cs (nth h.commits x).id then cs else cs ++ [fetY h cs x]
def fetK (g h : GGraph) (L : List Int) : Nat → List GCommit
  | 0 => g.commits
  | i + 1 => fetC h (fetK g h L i) (nth L i).toNat
def fetAll (g h : GGraph) (k : Nat) : GGraph := ⟨fetK g h (upsL h k) (upsL h k).length, g.head⟩
def fetched (g h : GGraph) (k : Int) : GGraph × Int :=
  if graphOk g && graphOk h && spIn k 0 (h.commits.length - 1) && graphOk (fetAll g h k.toNat) then (fetAll g h k.toNat, atC (fetAll g h k.toNat).commits (nth h.commits k.toNat).id) else (g, -1)
theorem fetK_len (g h : GGraph) (L : List Int) : ∀ i, (fetK g h L i).length ≤ g.commits.length + i
  | 0 => by simp [fetK]
  | i + 1 => by
    have := fetK_len g h L i
    rw [fetK, fetC]
    split
    · omega
    · simp; omega

/-- Where each that has been seen has gone. -/
def atK (g h : GGraph) (L : List Int) : Nat → List Int
  | 0 => List.replicate h.commits.length 0
  | i + 1 => (atK g h L i).set (nth L i).toNat (atC (fetK g h L (i + 1)) (nth h.commits (nth L i).toNat).id)
@[simp] theorem atK_len (g h : GGraph) (L : List Int) : ∀ i, (atK g h L i).length = h.commits.length
  | 0 => by simp [atK]
  | i + 1 => by simp [atK, atK_len g h L i]
def putK (at' us : List Int) : Nat → List Int
  | 0 => []
  | j + 1 => putI (putK at' us j) (nth at' (nth us j).toNat)
theorem putI_len (l : List Int) (s : Int) : (putI l s).length ≤ l.length + 1 := by
  unfold putI
  split
  · omega
  · rw [putGoI_len]; simp
theorem putK_len (at' us : List Int) : ∀ j, (putK at' us j).length ≤ j
  | 0 => Nat.le_refl _
  | j + 1 => by
    have := putK_len at' us j
    have := putI_len (putK at' us j) (nth at' (nth us j).toNat)
    rw [putK]; omega

theorem fetC_at (h : GGraph) (cs : List GCommit) (x : Nat) : 0 ≤ atC (fetC h cs x) (nth h.commits x).id := by
  unfold fetC
  split
  · assumption
  · rename_i hn
    have := atC_new (cs := cs) (y := fetY h cs x) (by simp only [fetY]; omega)
    simp only [fetY] at this ⊢
    rw [this]; omega
theorem fetC_old (h : GGraph) (cs : List GCommit) (x : Nat) {d : GDot} (hd : 0 ≤ atC cs d) : atC (fetC h cs x) d = atC cs d := by
  unfold fetC
  split
  · rfl
  · exact atC_old _ hd
theorem atK_inv {g h : GGraph} {L : List Int} (hL : ∀ i : Nat, i < L.length → (nth L i).toNat < h.commits.length) : ∀ i : Nat, i ≤ L.length → ∀ j : Nat, j < i → 0 ≤ atC (fetK g h L i) (nth h.commits (nth L j).toNat).id ∧ nth (atK g h L i) (nth L j).toNat = atC (fetK g h L i) (nth h.commits (nth L j).toNat).id
  | 0, _, j, hj => by omega
  | i + 1, hi, j, hj => by
    have hli := hL i (by omega)
    by_cases e : (nth L j).toNat = (nth L i).toNat
    · refine ⟨by rw [e, fetK]; exact fetC_at _ _ _, ?_⟩
      rw [atK, nth_set, if_pos ⟨e, by rw [atK_len]; exact hli⟩, e]
    · have hji : j < i := by
        rcases Nat.lt_or_ge j i with h1 | h1
        · exact h1
        · have : j = i := by omega
          subst this; exact absurd rfl e
      obtain ⟨h1, h2⟩ := atK_inv hL i (by omega) j hji
      have h3 := fetC_old h (fetK g h L i) (nth L i).toNat h1
      rw [fetK]
      refine ⟨by rw [h3]; exact h1, ?_⟩
      rw [atK, nth_set, if_neg (fun hc => e hc.1), h2, h3]

theorem graphOk_com {g : GGraph} (h : graphOk g = true) {i : Nat} (hi : i < g.commits.length) : comOk g i = true := by
  simp only [graphOk, Bool.and_eq_true] at h
  exact allB_iff.1 h.2 i hi
theorem graphOk_id {g : GGraph} (h : graphOk g = true) {i : Nat} (hi : i < g.commits.length) : atC g.commits (nth g.commits i).id = i := by
  have := graphOk_com h hi
  simp only [comOk, Bool.and_eq_true, beq_iff_eq] at this
  exact this.1.1.1.2
theorem graphOk_ups2 {g : GGraph} (h : graphOk g = true) {i : Nat} (hi : i < g.commits.length) : (upsOf g i).length ≤ 2 := by
  have := graphOk_com h hi
  simp only [comOk, Bool.and_eq_true, decide_eq_true_eq] at this
  exact this.1.2
theorem graphOk_asc {g : GGraph} (h : graphOk g = true) {i j : Nat} (hi : i < g.commits.length) (hj : j + 1 < (upsOf g i).length) : nth (upsOf g i) j < nth (upsOf g i) (j + 1) := by
  have := graphOk_com h hi
  simp only [comOk, Bool.and_eq_true] at this
  have := allB_iff.1 this.2 (j + 1) hj
  simp only [upAt, Bool.and_eq_true, Bool.or_eq_true, decide_eq_true_eq, Nat.add_sub_cancel] at this
  rcases this.1.2 with h1 | h1
  · omega
  · exact h1

theorem putI_two {a b : Int} (hne : a ≠ b) : putI [a] b = sortI [a, b] := by
  have e0 : hasI b [a] = false := by simp [hasI, hne]
  rw [putI, e0]
  by_cases h : b < a
  · have h2 : ¬ a ≤ b := by omega
    simp [putGoI, h, sortI, List.mergeSort, List.MergeSort.Internal.splitInTwo, List.merge, h2]
  · have h2 : a ≤ b := by omega
    simp [putGoI, h, sortI, List.mergeSort, List.MergeSort.Internal.splitInTwo, List.merge, h2]

/-- Put in their places one by one, or sorted: the same. -/
theorem putK_eq {g h : GGraph} (hh : graphOk h = true) {k i x : Nat} (hk : k < h.commits.length) (hi : i < (upsL h k).length) (ex : nth (upsL h k) i = x) : putK (atK g h (upsL h k) i) (upsOf h x) (upsOf h x).length = sortI (upK h (fetK g h (upsL h k) i) (upsOf h x) (upsOf h x).length) := by
  have hu := graphOk_ups hh
  obtain ⟨x', hx1, hx2, hx3⟩ := upsL_at hi
  have : x = x' := by omega
  subst this
  have hxl : x < h.commits.length := by omega
  have key : ∀ j : Nat, j < (upsOf h x).length → 0 ≤ atC (fetK g h (upsL h k) i) (nth h.commits (nth (upsOf h x) j).toNat).id ∧ nth (atK g h (upsL h k) i) (nth (upsOf h x) j).toNat = atC (fetK g h (upsL h k) i) (nth h.commits (nth (upsOf h x) j).toNat).id := by
    intro j hj
    have hb := hu x hxl j hj
    have hm := marks_closed hu hk hx1 hx2 hj
    obtain ⟨y, hy1, hy2⟩ := upsL_before hi ex (u := (nth (upsOf h x) j).toNat) (by omega) hm
    have := atK_inv (g := g) (h := h) (L := upsL h k) (fun a ha => by obtain ⟨z, h1, _, h3⟩ := upsL_at ha; omega) i (by omega) y hy1
    rw [hy2, Int.toNat_natCast] at this
    exact this
  have hl := graphOk_ups2 hh hxl
  have hasc := fun j => graphOk_asc (j := j) hh hxl
  have hbs := fun j => hu x hxl j
  generalize upsOf h x = us at key hl hasc hbs ⊢
  match us, hl with
  | [], _ => simp [putK, upK, sortI]
  | [u], _ =>
    obtain ⟨_, k2⟩ := key 0 (by simp)
    simp only [List.length_singleton, putK, upK, List.nil_append]
    rw [k2]
    simp [putI, hasI, putGoI, sortI]
  | [u, v], _ =>
    obtain ⟨a1, a2⟩ := key 0 (by simp)
    obtain ⟨b1, b2⟩ := key 1 (by simp)
    have hlt := hasc 0 (by simp)
    rw [Nat.zero_add] at hlt
    have hb0 := hbs 0 (by simp)
    have hb1 := hbs 1 (by simp)
    simp only [List.length_cons, List.length_nil, putK, upK, List.nil_append, List.singleton_append, Nat.zero_add, Nat.reduceAdd]
    rw [a2, b2]
    have e1 : ∀ a : Int, putI [] a = [a] := fun a => by simp [putI, hasI, putGoI]
    rw [e1]
    apply putI_two
    intro e
    have i1 := atC_id a1
    have i2 := atC_id b1
    rw [← e, i1] at i2
    have n0 : (nth [u, v] 0).toNat < h.commits.length := by omega
    have n1 : (nth [u, v] 1).toNat < h.commits.length := by omega
    have q1 := graphOk_id hh n0
    have q2 := graphOk_id hh n1
    rw [i2, q2] at q1
    omega
end Am
namespace Am
open Go Go.Proofs
open Cel (cells)
set_option maxRecDepth 100000
set_option linter.unusedSimpArgs false
set_option linter.unusedVariables false

theorem upsL_self {g : GGraph} (hu : upsLt g) {k : Nat} (hk : k < g.commits.length) : ∃ j : Nat, j < (upsL g k).length ∧ nth (upsL g k) j = k := by
  have hm : nth (marks g k) k = true := by
    have := runM_keep hu (n := k + 1) (by omega) (startM (k + 1) k) 0 (k + 1) (by omega) k (by omega)
    rw [Nat.zero_add] at this
    unfold marks
    rw [this, runM, startM, nth_set]
    simp
  have hmem : (k : Int) ∈ upsL g k := by rw [upsL_F]; exact markF_mem.2 ⟨k, by omega, hm, rfl⟩
  obtain ⟨j, hj, ej⟩ := List.mem_iff_getElem.1 hmem
  exact ⟨j, hj, by rw [nth_eq hj, ej]⟩
theorem fetK_ok {g h : GGraph} (hg : g.Ok) (hh : h.Ok) (kh : graphOk h = true) (kg : graphOk g = true) {k : Nat} (hk : k < h.commits.length) : ∀ i : Nat, i ≤ (upsL h k).length → (⟨fetK g h (upsL h k) i, g.head⟩ : GGraph).Ok := by
  have lg : g.commits.length ≤ 80 := by simp only [graphOk, Bool.and_eq_true, decide_eq_true_eq] at kg; exact kg.1.1
  have lh : h.commits.length ≤ 80 := by simp only [graphOk, Bool.and_eq_true, decide_eq_true_eq] at kh; exact kh.1.1
  have hul := upsL_len h k
  intro i
  induction i with
  | zero => intro _; simpa only [fetK] using hg
  | succ i ih =>
    intro hi
    have ih := ih (by omega)
    have hfl := fetK_len g h (upsL h k) (i + 1)
    rw [fetK] at hfl
    simp only [GGraph.Ok] at ih hh ⊢
    rw [fetK]
    refine ⟨by omega, ?_⟩
    rw [fetC]
    split
    · exact ih.2
    · intro y hy
      rcases List.mem_append.1 hy with hy | hy
      · exact ih.2 y hy
      · simp only [List.mem_singleton] at hy
        subst hy
        obtain ⟨x, hx1, _, hx2⟩ := upsL_at (g := h) (k := k) (i := i) (by omega)
        have hxl : x < h.commits.length := by omega
        have hc := hh.2 _ (nth_mem hxl)
        have h2 := graphOk_ups2 kh hxl
        rw [hx2, Int.toNat_natCast]
        simp only [GCommit.Ok, fetY] at hc ⊢
        rw [sortI_len, upK_len]
        exact ⟨by omega, hc.2⟩

@[simp] def h32 : Hts := { merge := fun _ => false, mergeF := fun _ => false, lend := fun f => if f = 109 then [.lend] else [], dr := fun id => if id = 13 then [{ mb := [67, 68] }, {}, {}, {}, {}, {}, {}, {}, { cr := true }, { cr := true }, { wr := [3776, 3264], cr := true }, {}] else if id = 16 then [{ mn := [3264, 5120, 5121, 5122, 5123], mb := [80, 82] }, { mn := [3264, 5120, 5121, 5122, 5123], mb := [80, 82] }, { mb := [80] }, { mb := [80] }, { mb := [80] }, {}, {}, { cr := true }, {}, { wr := [3264, 5120, 5121, 5122, 5123], cr := true }, { wr := [4736, 2048, 5248], cr := true }, {}, { wr := [512] }] else if id = 20 then [{ mb := [99] }, {}, {}, {}, {}, {}, {}, {}, { cr := true }, { wr := [384] }, {}] else [] }
set_option maxHeartbeats 8000000 in
theorem f32_ok (g h : GGraph) (hg : g.Ok) (hh : h.Ok) (k : Int) : FnR Tryz.prog 32 [.agg [.im g.commits.length (flat g.commits), .int .i64 g.head], .agg [.im h.commits.length (flat h.commits), .int .i64 h.head], .v (.int .i64 k)] (.tup [.agg [.ow 129 7 ((fetched g h k).1).commits.length (flatO ((fetched g h k).1).commits), .int .i64 ((fetched g h k).1).head], .v (.int .i64 ((fetched g h k).2))]) := by
  have hgo := hg
  have hho := hh
  simp only [GGraph.Ok] at hg hh
  have hl : ∀ y, y ∈ h.commits → y.ups.length ≤ 1073741824 := fun y hy => by have := hh.2 y hy; simp only [GCommit.Ok] at this; exact this.1
  refine FnW.of_AW TryzT_ok 0 (fn := Tryz.f32) (by kernel_rfl) rfl (by kernel_rfl) rfl rfl rfl ?_; refine AW_of h32 TryzT_ok (by kernel_rfl) ?_
  simp -dsimp
  refine ACallK_of (f104_ok _ hgo) ?_
  cases q1 : graphOk g
  · simp -dsimp
    refine ACallK_of (f106_ok _ hgo) ?_
    simp -dsimp
    simp [fetched, q1]
  simp -dsimp
  refine ACallK_of (f104_ok _ hho) ?_
  cases q2 : graphOk h
  · simp -dsimp
    refine ACallK_of (f106_ok _ hgo) ?_
    simp -dsimp
    simp [fetched, q2]
  simp -dsimp
  refine ACallK_of (f105_ok _ _ hh.1) ?_
  cases q3 : spIn k 0 (h.commits.length - 1)
  · simp -dsimp
    refine ACallK_of (f106_ok _ hgo) ?_
    simp -dsimp
    simp [fetched, q3]
  have hk := q3
  simp only [spIn, Bool.and_eq_true, decide_eq_true_eq] at hk
  obtain ⟨n, rfl⟩ : ∃ n : Nat, k = n := ⟨k.toNat, by omega⟩
  have hu := graphOk_ups q2
  have hn : n < h.commits.length := by omega
  simp -dsimp
  refine ACallK_of (f106_ok _ hgo) ?_
  simp -dsimp
  refine ACallK_of (f107_ok _ hu hh.1 hl n hn) ?_
  simp -dsimp
  have ln := upsL_len h n
  have lh : h.commits.length ≤ 80 := by simp only [graphOk, Bool.and_eq_true, decide_eq_true_eq] at q2; exact q2.1.1
  refine AWh_loop (fun i : Nat => i ≤ (upsL h n).length) (fun i => mkE [(2, .c (.int .i64 n)), (3, .box 192 0), (4, .box 256 0), (6, .box 384 0), (8, .box 512 0), (35, .arr 2240), (36, .c (.int .i64 (upsL h n).length)), (37, .c (.int .i64 i))] [(192, .box [.c (.im g.commits.length (flat g.commits)), .c (.int .i64 g.head)]), (256, .box [.c (.im h.commits.length (flat h.commits)), .c (.int .i64 h.head)]), (384, .box [.nil, .c (.int .i64 0)]), (512, .box [.arr 2048, .c (.int .i64 g.head)]), (2048, .arr 0 129 7 (fetK g h (upsL h n) i).length (flatO (fetK g h (upsL h n) i))), (2240, .arr 0 3 1 (upsL h n).length (flat (upsL h n)))]) (fun i => (upsL h n).length - i) 0 (Wk_to [2, 3, 4, 6, 8, 35, 36, 37] [(192, 192), (256, 256), (384, 384), (512, 512), (2048, 2048), (2240, 2240)] rfl rfl (by simp [fetK])) (by simp) ?_
  rintro i hi
  have hfk := fetK_ok hgo hho q2 q1 hn i hi
  have hfl := fetK_len g h (upsL h n) i
  have hfo := hfk
  simp only [GGraph.Ok] at hfk
  refine AW_of h32 TryzT_ok (by kernel_rfl) ?_
  rcases Nat.lt_or_ge i (upsL h n).length with h1 | h1
  · obtain ⟨x, hx1, hx2, hx3⟩ := upsL_at h1
    have hxl : x < h.commits.length := by omega
    have hxt : (nth (upsL h n) i).toNat = x := by omega
    have hcx := hh.2 _ (nth_mem hxl)
    simp only [GCommit.Ok] at hcx
    simp -dsimp [h1, ne_of_lt h1, hx3, hxl, ne_of_lt hxl]
    repeat (first | refine ⟨by omega, ?_⟩ | refine ⟨by simp [capMax]; omega, ?_⟩ | refine ⟨⟨by omega, by omega⟩, ?_⟩)
    refine ACallK_of (f108_ok (⟨fetK g h (upsL h n) i, g.head⟩ : GGraph) (nth h.commits x).id hfk.1) ?_
    rw [atId_eq]
    by_cases qa : 0 ≤ atC (fetK g h (upsL h n) i) (nth h.commits x).id
    · have hs : fetK g h (upsL h n) (i + 1) = fetK g h (upsL h n) i := by rw [fetK, fetC, hxt, if_pos qa]
      simp -dsimp [qa]
      exact Back_of (i + 1) [2, 3, 4, 6, 8, 35, 36, 37] [(192, 192), (256, 256), (384, 384), (512, 512), (2048, 2048), (2240, 2240)] rfl rfl (by simp [hs]; rw [wrap64 (by omega) (by omega)]) (by omega) (by omega)
    have hs : fetK g h (upsL h n) (i + 1) = fetK g h (upsL h n) i ++ [fetY h (fetK g h (upsL h n) i) x] := by rw [fetK, fetC, hxt, if_neg qa]
    have hup2 := graphOk_ups2 q2 hxl
    have eu : (nth h.commits x).ups = upsOf h x := rfl
    simp -dsimp [qa]
    refine AWh_loop (fun j : Nat => j ≤ (upsOf h x).length) (fun j => mkE [(2, .c (.int .i64 n)), (3, .box 192 0), (4, .box 256 0), (6, .box 384 0), (8, .box 512 0), (11, .box 704 0), (12, .arr 3264), (35, .arr 2240), (36, .c (.int .i64 (upsL h n).length)), (37, .c (.int .i64 i)), (53, .c (.im (upsOf h x).length (flat (upsOf h x)))), (54, .c (.int .i64 (upsOf h x).length)), (55, .c (.int .i64 j))] [(192, .box [.c (.im g.commits.length (flat g.commits)), .c (.int .i64 g.head)]), (256, .box [.c (.im h.commits.length (flat h.commits)), .c (.int .i64 h.head)]), (384, .box [.nil, .c (.int .i64 0)]), (512, .box [.arr 2048, .c (.int .i64 g.head)]), (704, .box [.c (.int .i64 ((nth h.commits x)).id.rep), .c (.int .i64 ((nth h.commits x)).id.seq), .c (.im ((nth h.commits x)).ups.length (flat ((nth h.commits x)).ups)), .c (.im ((nth h.commits x)).state.know.length (flat ((nth h.commits x)).state.know)), .c (.im ((nth h.commits x)).state.tallies.length (flat ((nth h.commits x)).state.tallies)), .c (.im ((nth h.commits x)).state.lives.length (flat ((nth h.commits x)).state.lives)), .c (.im ((nth h.commits x)).state.cs.length (flat ((nth h.commits x)).state.cs))]), (2048, .arr 0 129 7 (fetK g h (upsL h n) i).length (flatO (fetK g h (upsL h n) i))), (2240, .arr 0 3 1 (upsL h n).length (flat (upsL h n))), (3264, .arr 0 3 1 (upK h (fetK g h (upsL h n) i) (upsOf h x) j).length (flat (upK h (fetK g h (upsL h n) i) (upsOf h x) j)))]) (fun j => (upsOf h x).length - j) 0 (Wk_to [2, 3, 4, 6, 8, 11, 12, 35, 36, 37, 53, 54, 55] [(192, 192), (256, 256), (384, 384), (512, 512), (704, 704), (2048, 2048), (2240, 2240), (3264, 3264)] rfl rfl (by simp [upK, eu])) (by simp) ?_
    rintro j hj
    have hul := upK_len h (fetK g h (upsL h n) i) (upsOf h x) j
    refine AW_of h32 TryzT_ok (by kernel_rfl) ?_
    rcases Nat.lt_or_ge j (upsOf h x).length with p1 | p1
    · have hb := hu x hxl j p1
      have b1 : (nth (upsOf h x) j).toNat < h.commits.length := by omega
      have b2 : 0 ≤ nth (upsOf h x) j := hb.1
      have b3 : nth (upsOf h x) j < (h.commits.length : Int) := by omega
      simp -dsimp [p1, ne_of_lt p1, b1, ne_of_lt b1, b2, b3]
      repeat (first | refine ⟨by omega, ?_⟩ | refine ⟨by simp [capMax]; omega, ?_⟩ | refine ⟨⟨by omega, by omega⟩, ?_⟩)
      refine ACallK_of (f108_ok (⟨fetK g h (upsL h n) i, g.head⟩ : GGraph) (nth h.commits (nth (upsOf h x) j).toNat).id hfk.1) ?_
      rw [atId_eq]
      simp -dsimp
      repeat (first | refine ⟨by omega, ?_⟩ | refine ⟨by simp [capMax]; omega, ?_⟩ | refine ⟨⟨by omega, by omega⟩, ?_⟩)
      exact Back_of (j + 1) [2, 3, 4, 6, 8, 11, 12, 35, 36, 37, 53, 54, 55] [(192, 192), (256, 256), (384, 384), (512, 512), (704, 704), (2048, 2048), (2240, 2240), (3264, 4416)] rfl rfl (by simp [upK]; rw [wrap64 (by omega) (by omega)]) (by omega) (by omega)
    obtain rfl : j = (upsOf h x).length := by omega
    simp -dsimp
    refine ACallW_args (by intro us; simp -dsimp; exact ⟨rfl, rfl, rfl⟩) ?_
    have hc := f109_ok (upK h (fetK g h (upsL h n) i) (upsOf h x) (upsOf h x).length) (by omega)
    rw [upK_len] at hc
    refine ACallC_of (fun us => hc) (by intro us; simp -dsimp; exact ⟨rfl, rfl⟩) ?_
    have hsl := sortI_len (upK h (fetK g h (upsL h n) i) (upsOf h x) (upsOf h x).length)
    simp -dsimp
    refine ACallK_of (f110_ok _ hcx.2) ?_
    simp -dsimp
    repeat (first | refine ⟨by omega, ?_⟩ | refine ⟨by simp [capMax]; omega, ?_⟩ | refine ⟨⟨by omega, by omega⟩, ?_⟩)
    have ha : flatO (fetK g h (upsL h n) i ++ [fetY h (fetK g h (upsL h n) i) x]) = flatO (fetK g h (upsL h n) i) ++ CelO.cellsO (fetY h (fetK g h (upsL h n) i) x) := by rw [flatO_append, flatO_cons, flatO_nil, List.append_nil]
    simp only [fetY] at ha
    exact Back_of (i + 1) [2, 3, 4, 6, 8, 35, 36, 37] [(192, 192), (256, 256), (384, 384), (512, 512), (2048, 5312), (2240, 2240)] rfl rfl (by simp [hs, ha, fetY, hsl, CelO.cellsO]; rw [wrap64 (by omega) (by omega)]) (by omega) (by omega)
  obtain rfl : i = (upsL h n).length := by omega
  simp -dsimp
  refine ACallK_of (f104_ok (⟨fetK g h (upsL h n) (upsL h n).length, g.head⟩ : GGraph) hfo) ?_
  cases q4 : graphOk (⟨fetK g h (upsL h n) (upsL h n).length, g.head⟩ : GGraph)
  · simp -dsimp
    refine ACallK_of (f106_ok _ hgo) ?_
    simp -dsimp
    simp [fetched, fetAll, q1, q2, q3, q4]
  simp -dsimp [hn, ne_of_lt hn]
  repeat (first | refine ⟨by omega, ?_⟩ | refine ⟨by simp [capMax]; omega, ?_⟩ | refine ⟨⟨by omega, by omega⟩, ?_⟩)
  refine ACallK_of (f108_ok (⟨fetK g h (upsL h n) (upsL h n).length, g.head⟩ : GGraph) (nth h.commits n).id hfk.1) ?_
  rw [atId_eq]
  simp -dsimp
  simp [fetched, fetAll, q1, q2, q3, q4]

@[simp] def h31 : Hts := { merge := fun _ => false, mergeF := fun _ => false, lend := fun f => if f = 103 then [.lend] else [], dr := fun id => if id = 9 then [{ mb := [12] }, { mb := [12] }, { mb := [12] }, { mb := [12] }, { mb := [12] }, { mb := [12] }, { mb := [12] }, { mb := [12] }, { cr := true }, { wr := [768] }] else if id = 12 then [{ mb := [68, 14] }, { mb := [68, 14] }, { mb := [14] }, { mb := [14] }, { cr := true, mb := [14] }, { mb := [14] }, { cr := true, mb := [68] }, { wr := [896] }] else if id = 16 then [{}, {}, {}, {}, {}, {}, {}, {}, {}, {}, { wr := [900001], cr := true }, {}, { wr := [896] }] else if id = 22 then [{}, { mn := [384] }, { mn := [384] }, { mn := [384] }, { mn := [384] }, { wr := [384] }, {}] else [] }
set_option maxHeartbeats 8000000 in
theorem f31_ok (g h : GGraph) (hg : g.Ok) (hh : h.Ok) (k : Int) : FnR Tryz.prog 31 [.agg [.im g.commits.length (flat g.commits), .int .i64 g.head], .agg [.im h.commits.length (flat h.commits), .int .i64 h.head], .v (.int .i64 k)] (.tup [.agg [.ow 129 7 ((fetched g h k).1).commits.length (flatO ((fetched g h k).1).commits), .int .i64 ((fetched g h k).1).head], .v (.int .i64 ((fetched g h k).2))]) := by
  have hgo := hg
  have hho := hh
  simp only [GGraph.Ok] at hg hh
  have hl : ∀ y, y ∈ h.commits → y.ups.length ≤ 1073741824 := fun y hy => by have := hh.2 y hy; simp only [GCommit.Ok] at this; exact this.1
  have w0 : IntKind.i64.wrap ((h.commits.length : Int) - 1) = h.commits.length - 1 := wrap64 (by omega) (by omega)
  refine FnW.of_AW TryzT_ok 0 (fn := Tryz.f31) (by kernel_rfl) rfl (by kernel_rfl) rfl rfl rfl ?_; refine AW_of h31 TryzT_ok (by kernel_rfl) ?_
  simp -dsimp
  refine ACallK_of (f97_ok _ hgo) ?_
  simp -dsimp
  refine ACallK_of (f98_ok _ hgo) ?_
  cases q1 : graphOk g
  · simp -dsimp
    simp [fetched, q1]
  simp -dsimp
  refine ACallK_of (f98_ok _ hho) ?_
  cases q2 : graphOk h
  · simp -dsimp
    simp [fetched, q2]
  simp -dsimp [w0]
  refine ACallK_of (f86_ok _ _ _) ?_
  cases q3 : spIn k 0 (h.commits.length - 1)
  · simp -dsimp
    simp [fetched, q3]
  have hk := q3
  simp only [spIn, Bool.and_eq_true, decide_eq_true_eq] at hk
  obtain ⟨n, rfl⟩ : ∃ n : Nat, k = n := ⟨k.toNat, by omega⟩
  have hu := graphOk_ups q2
  have hn : n < h.commits.length := by omega
  have hm2 := f99_ok (marksS h n) (by simp; omega)
  rw [marksS_len, upsL_S hu hn] at hm2
  simp -dsimp
  refine ACallK_of (f100_ok _ hu hh.1 hl n hn) ?_
  simp -dsimp
  refine ACallK_of (hm2) ?_
  simp -dsimp
  repeat (first | refine ⟨by omega, ?_⟩ | refine ⟨by simp [capMax]; omega, ?_⟩ | refine ⟨⟨by omega, by omega⟩, ?_⟩)
  have ln := upsL_len h n
  have lh : h.commits.length ≤ 80 := by simp only [graphOk, Bool.and_eq_true, decide_eq_true_eq] at q2; exact q2.1.1
  refine AWh_loop (fun i : Nat => i ≤ (upsL h n).length) (fun i => mkE [(2, .c (.int .i64 n)), (3, .box 192 0), (4, .box 256 0), (6, .box 384 0), (8, .box 512 0), (9, .arr 2496), (10, .arr 2752), (11, .c (.int .i64 i))] [(192, .box [.c (.im g.commits.length (flat g.commits)), .c (.int .i64 g.head)]), (256, .box [.c (.im h.commits.length (flat h.commits)), .c (.int .i64 h.head)]), (384, .box [.nil, .c (.int .i64 0)]), (512, .box [.arr 1088, .c (.int .i64 g.head)]), (1088, .arr 0 129 7 (fetK g h (upsL h n) i).length (flatO (fetK g h (upsL h n) i))), (2496, .arr 0 3 1 (upsL h n).length (flat (upsL h n))), (2752, .arr 0 3 1 h.commits.length (flat (atK g h (upsL h n) i)))]) (fun i => (upsL h n).length - i) 0 (Wk_to [2, 3, 4, 6, 8, 9, 10, 11] [(192, 192), (256, 256), (384, 384), (512, 512), (1088, 1088), (2496, 2496), (2752, 2752)] rfl rfl (by simp [fetK, atK])) (by simp) ?_
  rintro i hi
  have hfk := fetK_ok hgo hho q2 q1 hn i hi
  have hfl := fetK_len g h (upsL h n) i
  have hfo := hfk
  have hal := atK_len g h (upsL h n) i
  simp only [GGraph.Ok] at hfk
  refine AW_of h31 TryzT_ok (by kernel_rfl) ?_
  rcases Nat.lt_or_ge i (upsL h n).length with h1 | h1
  · obtain ⟨x, hx1, hx2, hx3⟩ := upsL_at h1
    have hxl : x < h.commits.length := by omega
    have hxt : (nth (upsL h n) i).toNat = x := by omega
    have hcx := hh.2 _ (nth_mem hxl)
    have hna : ¬ atK g h (upsL h n) i = [] := ne_of_lt (i := x) (by rw [hal]; exact hxl)
    simp only [GCommit.Ok] at hcx
    simp -dsimp [h1, ne_of_lt h1, hx3, hxl, ne_of_lt hxl]
    repeat (first | refine ⟨by omega, ?_⟩ | refine ⟨by simp [capMax]; omega, ?_⟩ | refine ⟨⟨by omega, by omega⟩, ?_⟩)
    refine ACallK_of (f101_ok (⟨fetK g h (upsL h n) i, g.head⟩ : GGraph) (nth h.commits x).id hfk.1) ?_
    rw [atId_eq]
    by_cases qa : 0 ≤ atC (fetK g h (upsL h n) i) (nth h.commits x).id
    · have hs : fetK g h (upsL h n) (i + 1) = fetK g h (upsL h n) i := by rw [fetK, fetC, hxt, if_pos qa]
      have hs2 : atK g h (upsL h n) (i + 1) = (atK g h (upsL h n) i).set x (atC (fetK g h (upsL h n) i) (nth h.commits x).id) := by rw [atK, hs, hxt]
      have qa' : ¬ atC (fetK g h (upsL h n) i) (nth h.commits x).id < 0 := by omega
      simp -dsimp [qa', h1, ne_of_lt h1, hx3, hxl, hna, hal]
      repeat (first | refine ⟨by omega, ?_⟩ | refine ⟨by simp [capMax]; omega, ?_⟩ | refine ⟨⟨by omega, by omega⟩, ?_⟩)
      exact Back_of (i + 1) [2, 3, 4, 6, 8, 9, 10, 11] [(192, 192), (256, 256), (384, 384), (512, 512), (1088, 1088), (2496, 2496), (2752, 2752)] rfl rfl (by simp [hs, hs2]; rw [wrap64 (by omega) (by omega)]) (by omega) (by omega)
    have qa' : atC (fetK g h (upsL h n) i) (nth h.commits x).id < 0 := by omega
    have hs : fetK g h (upsL h n) (i + 1) = fetK g h (upsL h n) i ++ [fetY h (fetK g h (upsL h n) i) x] := by rw [fetK, fetC, hxt, if_neg qa]
    have hnew : atC (fetK g h (upsL h n) (i + 1)) (nth h.commits x).id = (fetK g h (upsL h n) i).length := by rw [hs]; exact atC_new (y := fetY h (fetK g h (upsL h n) i) x) qa'
    have hs2 : atK g h (upsL h n) (i + 1) = (atK g h (upsL h n) i).set x (fetK g h (upsL h n) i).length := by rw [atK, hxt, hnew]
    have hput := putK_eq (g := g) q2 hn h1 hx3
    have hup2 := graphOk_ups2 q2 hxl
    have eu : (nth h.commits x).ups = upsOf h x := rfl
    simp -dsimp [qa']
    repeat (first | refine ⟨by omega, ?_⟩ | refine ⟨by simp [capMax]; omega, ?_⟩ | refine ⟨⟨by omega, by omega⟩, ?_⟩)
    refine ACallK_of (f102_ok _ hcx.2) ?_
    simp -dsimp
    refine AWh_loop (fun j : Nat => j ≤ (upsOf h x).length) (fun j => mkE [(2, .c (.int .i64 n)), (3, .box 192 0), (4, .box 256 0), (6, .box 384 0), (8, .box 512 0), (9, .arr 2496), (10, .arr 2752), (11, .c (.int .i64 i)), (12, .box 768 0), (14, .box 896 0), (15, .c (.int .i64 j))] [(900001, .arr 0 3 1 (putK (atK g h (upsL h n) i) (upsOf h x) j).length (flat (putK (atK g h (upsL h n) i) (upsOf h x) j))), (192, .box [.c (.im g.commits.length (flat g.commits)), .c (.int .i64 g.head)]), (256, .box [.c (.im h.commits.length (flat h.commits)), .c (.int .i64 h.head)]), (384, .box [.nil, .c (.int .i64 0)]), (512, .box [.arr 1088, .c (.int .i64 g.head)]), (768, .box [.c (.int .i64 ((nth h.commits x)).id.rep), .c (.int .i64 ((nth h.commits x)).id.seq), .c (.im ((nth h.commits x)).ups.length (flat ((nth h.commits x)).ups)), .c (.im ((nth h.commits x)).state.know.length (flat ((nth h.commits x)).state.know)), .c (.im ((nth h.commits x)).state.tallies.length (flat ((nth h.commits x)).state.tallies)), .c (.im ((nth h.commits x)).state.lives.length (flat ((nth h.commits x)).state.lives)), .c (.im ((nth h.commits x)).state.cs.length (flat ((nth h.commits x)).state.cs))]), (896, .box [.c (.int .i64 (nth h.commits x).id.rep), .c (.int .i64 (nth h.commits x).id.seq), .arr 900001, .arr 4352, .arr 4353, .arr 4354, .arr 4355]), (1088, .arr 0 129 7 (fetK g h (upsL h n) i).length (flatO (fetK g h (upsL h n) i))), (2496, .arr 0 3 1 (upsL h n).length (flat (upsL h n))), (2752, .arr 0 3 1 h.commits.length (flat (atK g h (upsL h n) i))), (4352, .arr 0 3 1 (nth h.commits x).state.know.length (flat (nth h.commits x).state.know)), (4353, .arr 0 179 3 (nth h.commits x).state.tallies.length (flat (nth h.commits x).state.tallies)), (4354, .arr 0 182 6 (nth h.commits x).state.lives.length (flat (nth h.commits x).state.lives)), (4355, .arr 0 185 8 (nth h.commits x).state.cs.length (flat (nth h.commits x).state.cs))]) (fun j => (upsOf h x).length - j) 0 (Wk_toA [2, 3, 4, 6, 8, 9, 10, 11, 12, 14, 15] [(192, 192), (256, 256), (384, 384), (512, 512), (768, 768), (896, 896), (1088, 1088), (2496, 2496), (2752, 2752), (4352, 4352), (4353, 4353), (4354, 4354), (4355, 4355)] [.cell 896 2 900001 3 1] rfl rfl (by simp [putK])) (by simp) ?_
    rintro j hj
    have hpl := putK_len (atK g h (upsL h n) i) (upsOf h x) j
    refine AW_of h31 TryzT_ok (by kernel_rfl) ?_
    rcases Nat.lt_or_ge j (upsOf h x).length with p1 | p1
    · have hb := hu x hxl j p1
      have b1 : (nth (upsOf h x) j).toNat < h.commits.length := by omega
      have b2 : 0 ≤ nth (upsOf h x) j := hb.1
      have b3 : nth (upsOf h x) j < (h.commits.length : Int) := by omega
      simp -dsimp [eu, p1, ne_of_lt p1, b1, hna, hal, b2, b3]
      repeat (first | refine ⟨by omega, ?_⟩ | refine ⟨by simp [capMax]; omega, ?_⟩ | refine ⟨⟨by omega, by omega⟩, ?_⟩)
      refine ACallW_args (by intro us; simp -dsimp; exact ⟨rfl, rfl, rfl⟩) ?_
      refine ACallC_of (fun us => f103_ok (putK (atK g h (upsL h n) i) (upsOf h x) j) (nth (atK g h (upsL h n) i) (nth (upsOf h x) j).toNat) (by omega)) (by intro us; simp -dsimp; exact ⟨rfl, rfl⟩) ?_
      simp -dsimp
      repeat (first | refine ⟨by omega, ?_⟩ | refine ⟨by simp [capMax]; omega, ?_⟩ | refine ⟨⟨by omega, by omega⟩, ?_⟩)
      exact Back_of (j + 1) [2, 3, 4, 6, 8, 9, 10, 11, 12, 14, 15] [(900001, 5568), (192, 192), (256, 256), (384, 384), (512, 512), (768, 768), (896, 896), (1088, 1088), (2496, 2496), (2752, 2752), (4352, 4352), (4353, 4353), (4354, 4354), (4355, 4355)] rfl rfl (by simp [putK, eu]; rw [wrap64 (by omega) (by omega)]) (by omega) (by omega)
    obtain rfl : j = (upsOf h x).length := by omega
    rw [hput]
    have hsl := sortI_len (upK h (fetK g h (upsL h n) i) (upsOf h x) (upsOf h x).length)
    have wl : IntKind.i64.wrap ((fetK g h (upsL h n) i).length : Int) = (fetK g h (upsL h n) i).length := by rw [wrap64 (by omega) (by omega)]
    simp -dsimp [eu, h1, ne_of_lt h1, hx3, hxl, hna, hal, wl]
    repeat (first | refine ⟨by omega, ?_⟩ | refine ⟨by simp [capMax]; omega, ?_⟩ | refine ⟨⟨by omega, by omega⟩, ?_⟩)
    have ha : flatO ((fetK g h (upsL h n) i) ++ [fetY h (fetK g h (upsL h n) i) x]) = flatO (fetK g h (upsL h n) i) ++ CelO.cellsO (fetY h (fetK g h (upsL h n) i) x) := by rw [flatO_append, flatO_cons, flatO_nil, List.append_nil]
    simp only [fetY] at ha
    exact Back_of (i + 1) [2, 3, 4, 6, 8, 9, 10, 11] [(192, 192), (256, 256), (384, 384), (512, 512), (1088, 5952), (2496, 2496), (2752, 2752)] rfl rfl (by simp [hs, hs2, ha, fetY, hsl, CelO.cellsO]; rw [wrap64 (by omega) (by omega)]) (by omega) (by omega)
  obtain rfl : i = (upsL h n).length := by omega
  simp -dsimp
  refine ACallK_of (f98_ok (⟨fetK g h (upsL h n) (upsL h n).length, g.head⟩ : GGraph) hfo) ?_
  cases q4 : graphOk (⟨fetK g h (upsL h n) (upsL h n).length, g.head⟩ : GGraph)
  · simp -dsimp
    refine ACallK_of (f97_ok _ hgo) ?_
    simp -dsimp
    simp [fetched, fetAll, q1, q2, q3, q4]
  have hna : ¬ atK g h (upsL h n) (upsL h n).length = [] := ne_of_lt (i := n) (by rw [hal]; exact hn)
  have hlast : nth (atK g h (upsL h n) (upsL h n).length) n = atC (fetK g h (upsL h n) (upsL h n).length) (nth h.commits n).id := by
    obtain ⟨j, hj, ej⟩ := upsL_self (g := h) hu hn
    have := (atK_inv (g := g) (h := h) (L := upsL h n) (fun a ha => by obtain ⟨z, h1, _, h3⟩ := upsL_at ha; omega) (upsL h n).length (Nat.le_refl _) j hj).2
    rw [ej, Int.toNat_natCast] at this
    exact this
  simp -dsimp [hn, hna, hal]
  repeat (first | refine ⟨by omega, ?_⟩ | refine ⟨by simp [capMax]; omega, ?_⟩ | refine ⟨⟨by omega, by omega⟩, ?_⟩)
  simp [fetched, fetAll, q1, q2, q3, q4, hlast]
end Am
