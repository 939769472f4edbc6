/- Rows: each cell once, each behind what it was put behind; all of them. No condition. -/
import Derived.Test.YteidfkbfocdnmaaGreatD
import Derived.Test.YteidfkbfocdnmaaGreatU1
import Derived.Test.YteidfkbfocdnmaaGreatE70
import Derived.Test.YteidfkbfocdnmaaGreatE93a
import Derived.Test.YteidfkbfocdnmaaGreatV1
namespace Am
open Go
set_option linter.unusedSimpArgs false
set_option linter.unusedVariables false

/-- Each is behind what it was put behind, which may be seen already. -/
def ordL : List GDot → List GCell → Prop
  | _, [] => True
  | seen, x :: l => x.ref ∈ seen ∧ ordL (seen ++ [x.dot]) l
theorem ordL_app : ∀ {a b : List GCell} {s : List GDot}, ordL s a → ordL (s ++ a.map (·.dot)) b → ordL s (a ++ b)
  | [], b, s, _, h => by simpa using h
  | x :: a, b, s, h1, h2 => by
    refine ⟨h1.1, ordL_app h1.2 ?_⟩
    simpa using h2
theorem pre_ord (cs : List GCell) (o : ByteArray) : ∀ (n : Nat) (r : GDot) (s : List GDot), r ∈ s → ordL s (pre cs o n r)
  | 0, _, _, _ => trivial
  | n + 1, r, s, hr => by
    rw [pre]
    have key : ∀ (ks : List GCell) (s : List GDot), r ∈ s → (∀ k, k ∈ ks → k.ref = r) → ordL s (ks.flatMap fun k => k :: pre cs o n k.dot) := by
      intro ks
      induction ks with
      | nil => intro s _ _; trivial
      | cons k ks ih =>
        intro s hs hk
        rw [List.flatMap_cons]
        refine ordL_app ⟨by rw [hk k (by simp)]; exact hs, pre_ord cs o n k.dot _ (by simp)⟩ (ih _ (List.mem_append_left _ hs) (fun x hx => hk x (by simp [hx])))
    exact key _ s hr fun k hk => (kids_mem hk).2.2
theorem ordL_at : ∀ {l : List GCell} {s : List GDot} {i : Nat}, ordL s l → i < l.length → (nth l i).ref ∈ s ∨ ∃ j : Nat, j < i ∧ (nth l j).dot = (nth l i).ref
  | x :: l, s, 0, h, _ => .inl h.1
  | x :: l, s, i + 1, h, hi => by
    have hn : nth (x :: l) (i + 1) = nth l i := rfl
    rw [hn]
    rcases ordL_at h.2 (by simpa using hi) with q | ⟨j, hj, e⟩
    · rcases List.mem_append.1 q with q | q
      · exact .inl q
      · refine .inr ⟨0, by omega, ?_⟩
        exact (List.mem_singleton.1 q).symm
    · exact .inr ⟨j + 1, by omega, e⟩
theorem kids_memI {cs : List GCell} {o : ByteArray} {r : GDot} {k : GCell} : k ∈ kids cs o r ↔ k ∈ cs ∧ k.obj = o ∧ k.ref = r := by
  refine ⟨kids_mem, fun ⟨h1, h2, h3⟩ => ?_⟩
  unfold kids
  rw [(insN_perm _ _ _ _ _).mem_iff, filK_mem (Nat.le_refl _)]
  obtain ⟨i, hi, e⟩ := mem_nth h1
  exact .inr ⟨i, hi, e, by simp [kidP, h2, h3]⟩
theorem pre_down {cs : List GCell} (h : RowF cs) {o : ByteArray} : ∀ {n : Nat} {r : GDot}, fuelOk cs n r → ∀ {p x : GCell}, p ∈ pre cs o n r → x ∈ kids cs o p.dot → x ∈ pre cs o n r
  | 0, r, hf, _, _, _, _ => absurd hf (fuel0 h)
  | n + 1, r, hf, p, x, hp, hx => by
    rw [pre] at hp ⊢
    rw [List.mem_flatMap] at hp ⊢
    obtain ⟨k, hk, hp⟩ := hp
    refine ⟨k, hk, ?_⟩
    have hfk := fuel_kid h hf hk
    rcases List.mem_cons.1 hp with rfl | hp
    · refine List.mem_cons_of_mem _ ?_
      match n, hfk with
      | 0, hfk => exact absurd hfk (fuel0 h)
      | m + 1, hfk => rw [pre, List.mem_flatMap]; exact ⟨x, hx, by simp⟩
    · exact List.mem_cons_of_mem _ (pre_down h hfk hp hx)
theorem pre_all {cs : List GCell} (h : RowF cs) {o : ByteArray} : ∀ (t : Nat) {x : GCell}, x ∈ cs → x.obj = o → x.time ≤ t → x ∈ preO cs o zeroDot
  | 0, x, hx, _, ht => by have := h.tim x hx; omega
  | t + 1, x, hx, ho, ht => by
    have hz : fuelOk cs 10001 zeroDot := .inl ⟨rfl, by omega⟩
    rcases h.ref x hx with e | ⟨p, hp, e, e2, e3⟩
    · rw [preO, pre, List.mem_flatMap]
      exact ⟨x, kids_memI.2 ⟨hx, ho, e⟩, by simp⟩
    · have hpp := pre_all h t hp (by rw [e2, ho]) (by omega)
      exact pre_down h hz hpp (kids_memI.2 ⟨hx, ho, e.symm⟩)
theorem preO_mem {cs : List GCell} (h : RowF cs) {o : ByteArray} {x : GCell} : x ∈ preO cs o zeroDot ↔ x ∈ cs ∧ x.obj = o := by
  refine ⟨pre_mem, fun ⟨h1, h2⟩ => pre_all h 10000 h1 h2 ?_⟩
  have := h.tim x h1
  omega
theorem preD_nodup {cs : List GCell} (h : RowF cs) (o : ByteArray) : (preD cs o zeroDot).Nodup ∧ zeroDot ∉ preD cs o zeroDot := by
  have hE := Dfs.end h (o := o) (n := dfsMu cs ([], [zeroDot])) (Dfs.start cs o) (Nat.le_refl _)
  exact ⟨by simpa using hE.nodup, hE.zero1⟩
theorem row_eq {s : GState} (h : SOK s) (o : ByteArray) : row s o = preO s.cs o zeroDot := by
  unfold row; rw [if_pos (of_sok h)]
theorem row_count {s : GState} (h : SOK s) (o : ByteArray) : (row s o).length = (s.cs.filter fun x => decide (x.obj = o)).length := by
  have hR := rowF_of (of_sok h)
  rw [row_eq h]
  have n1 : (preO s.cs o zeroDot).Nodup := by
    have := (preD_nodup hR o).1
    unfold preD List.Nodup at this
    rw [List.pairwise_map] at this
    exact this.imp fun {a b} hab e => hab (by rw [e])
  have n2 : s.cs.Nodup := pw_nodup cellLt_Lt h.c3
  refine ((List.perm_ext_iff_of_nodup n1 (n2.filter _)).2 fun x => ?_).length_eq
  rw [preO_mem hR, List.mem_filter, decide_eq_true_eq]
end Am
namespace Am
open Go
set_option linter.unusedSimpArgs false
set_option linter.unusedVariables false

end Am
namespace Am
open Go
set_option linter.unusedSimpArgs false
set_option linter.unusedVariables false

def couK (l : List GTally) (o : ByteArray) : Nat → Int
  | 0 => 0
  | i + 1 => if (nth l i).obj = o then (couK l o i + (nth l i).sum.tmod 1000000).tmod 1000000 else couK l o i
def countOf (s : GState) (o : ByteArray) : Int := couK s.tallies o s.tallies.length
theorem tmod_abs (a : Int) : -1000000 < a.tmod 1000000 ∧ a.tmod 1000000 < 1000000 := by
  have h1 := Int.tmod_lt_of_pos a (show (0 : Int) < 1000000 by omega)
  have h2 := Int.lt_tmod_of_pos a (show (0 : Int) < 1000000 by omega)
  omega
theorem couK_bd (l : List GTally) (o : ByteArray) : ∀ i, -1000000 < couK l o i ∧ couK l o i < 1000000
  | 0 => by simp [couK]
  | i + 1 => by
    rw [couK]
    split
    · exact tmod_abs _
    · exact couK_bd l o i
end Am
