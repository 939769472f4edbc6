/- Keys sorted and told once are keys put in their places. No condition. -/
import Derived.Test.YtlkkgdealgceeaaT
import Derived.Test.YtlkkgdealgceeaaD
import Derived.Test.YtlkkgdealgceeaaE19
namespace Am
open Go Go.Proofs
open Cel (cells)
set_option maxRecDepth 100000
set_option linter.unusedSimpArgs false
set_option linter.unusedVariables false

/-- strings in order, none twice -/
def SS (l : List ByteArray) : Prop := l.Pairwise fun a b => strLt a b = true
theorem strLt_trans {a b c : ByteArray} (h : strLt a b = true) (h' : strLt b c = true) : strLt a c = true := by
  rw [strLt, bytesLess_eq, decide_eq_true_eq] at *
  exact List.lt_trans h h'
theorem SS_unique : ∀ {l1 l2 : List ByteArray}, SS l1 → SS l2 → (∀ x, x ∈ l1 ↔ x ∈ l2) → l1 = l2
  | [], [], _, _, _ => rfl
  | [], y :: r, _, _, h => by have := (h y).2 (by simp); simp at this
  | x :: r, [], _, _, h => by have := (h x).1 (by simp); simp at this
  | x :: r, y :: t, h1, h2, h => by
    obtain ⟨a1, a2⟩ := List.pairwise_cons.1 h1
    obtain ⟨b1, b2⟩ := List.pairwise_cons.1 h2
    have e : x = y := by
      rcases List.mem_cons.1 ((h x).1 (by simp)) with e | hx
      · exact e
      · rcases List.mem_cons.1 ((h y).2 (by simp)) with e | hy
        · exact e.symm
        · have := strLt_asymm (a1 y hy)
          rw [b1 x hx] at this
          cases this
    subst e
    rw [SS_unique a2 b2 fun z => ?_]
    have hz := h z
    simp only [List.mem_cons] at hz
    constructor
    · intro hm
      rcases hz.1 (.inr hm) with e | hm'
      · subst e
        have := a1 z hm
        rw [strLt_self] at this; cases this
      · exact hm'
    · intro hm
      rcases hz.2 (.inr hm) with e | hm'
      · subst e
        have := b1 z hm
        rw [strLt_self] at this; cases this
      · exact hm'
theorem putGo_true (s : ByteArray) : ∀ l : List ByteArray, putGo s true l = l
  | [] => rfl
  | x :: r => by simp [putGo, putGo_true s r]
theorem putGo_mem (s x : ByteArray) : ∀ l : List ByteArray, x ∈ putGo s false l ↔ x = s ∨ x ∈ l
  | [] => by simp [putGo]
  | y :: r => by
    have ih := putGo_mem s x r
    simp only [putGo]
    split
    · simp [putGo_true]
    · simp [ih]; grind
theorem putGo_SS {s : ByteArray} : ∀ {l : List ByteArray}, SS l → s ∉ l → SS (putGo s false l)
  | [], _, _ => by simp [putGo, SS]
  | y :: r, h, hn => by
    obtain ⟨a1, a2⟩ := List.pairwise_cons.1 h
    simp only [List.mem_cons, not_or] at hn
    simp only [putGo, putGo_true]
    split
    · rename_i hc
      simp only [Bool.not_false, Bool.true_and] at hc
      refine List.pairwise_cons.2 ⟨fun z hz => ?_, h⟩
      rcases List.mem_cons.1 hz with rfl | hz
      · exact hc
      · exact strLt_trans hc (a1 z hz)
    · rename_i hc
      simp only [Bool.not_false, Bool.true_and, Bool.not_eq_true] at hc
      refine List.pairwise_cons.2 ⟨fun z hz => ?_, putGo_SS a2 hn.2⟩
      rcases (putGo_mem s z r).1 hz with rfl | hz
      · cases hg : strLt y z
        · exact absurd (strLt_tri hc hg) hn.1
        · rfl
      · exact a1 z hz
theorem hasS_iff {s : ByteArray} {l : List ByteArray} : hasS s l = true ↔ s ∈ l := by
  simp [hasS]
theorem putL_mem (l : List ByteArray) (s x : ByteArray) : x ∈ putL l s ↔ x ∈ l ∨ x = s := by
  unfold putL
  split
  · rename_i h
    rw [hasS_iff] at h
    constructor
    · exact .inl
    · rintro (h' | rfl)
      · exact h'
      · exact h
  · rw [putGo_mem]; exact Or.comm
theorem putL_SS {l : List ByteArray} {s : ByteArray} (h : SS l) : SS (putL l s) := by
  unfold putL
  split
  · exact h
  · rename_i hn
    exact putGo_SS h (fun hm => hn (hasS_iff.2 hm))
theorem keys_spec (s : GState) (m : Bool) (o : ByteArray) : ∀ n, SS (keysUpto s m o n) ∧ ∀ x, x ∈ keysUpto s m o n ↔ x ∈ rawUpto s m o n
  | 0 => by simp [keysUpto, rawUpto, SS]
  | n + 1 => by
    obtain ⟨h1, h2⟩ := keys_spec s m o n
    simp only [keysUpto, rawUpto]
    split
    · refine ⟨putL_SS h1, fun x => ?_⟩
      rw [putL_mem, h2]; simp
    · exact ⟨h1, h2⟩

/-- bytes' lists: kept of the first m -/
theorem kept_spec (d : Array (List UInt8)) (hs : ∀ i j : Nat, i ≤ j → j < d.size → d[i]! ≤ d[j]!) : ∀ m : Nat, m ≤ d.size →
    (Lib.compactUpTo d m).Pairwise (· < ·) ∧ ∀ x, x ∈ Lib.compactUpTo d m ↔ ∃ j : Nat, j < m ∧ d[j]! = x
  | 0, _ => by simp [Lib.compactUpTo]
  | m + 1, hm => by
    obtain ⟨h1, h2⟩ := kept_spec d hs m (by omega)
    rw [Lib.compactUpTo_succ]
    by_cases hk : Lib.keeps d m = true
    · rw [if_pos hk]
      refine ⟨List.pairwise_append.2 ⟨h1, by simp, fun x hx y hy => ?_⟩, fun x => ?_⟩
      · simp only [List.mem_singleton] at hy
        subst hy
        obtain ⟨j, hj, rfl⟩ := (h2 x).1 hx
        simp only [Lib.keeps, decide_eq_true_eq] at hk
        have hk := hk.resolve_left (by omega)
        have l1 := hs j (m - 1) (by omega) (by omega)
        have l2 := hs (m - 1) m (by omega) (by omega)
        rcases Decidable.em (d[j]! < d[m]!) with h | h
        · exact h
        · have l3 : d[m]! ≤ d[j]! := List.not_lt.1 h
          exact absurd (List.le_antisymm (List.le_trans l3 l1) l2) hk
      · rw [List.mem_append, h2]
        simp only [List.mem_singleton]
        constructor
        · rintro (⟨j, hj, rfl⟩ | rfl)
          · exact ⟨j, by omega, rfl⟩
          · exact ⟨m, by omega, rfl⟩
        · rintro ⟨j, hj, rfl⟩
          by_cases e : j = m
          · subst e; exact .inr rfl
          · exact .inl ⟨j, by omega, rfl⟩
    · rw [if_neg hk]
      refine ⟨by simpa using h1, fun x => ?_⟩
      rw [List.append_nil, h2]
      simp only [Lib.keeps, decide_eq_true_eq, not_or, Decidable.not_not] at hk
      constructor
      · rintro ⟨j, hj, rfl⟩; exact ⟨j, by omega, rfl⟩
      · rintro ⟨j, hj, rfl⟩
        by_cases e : j = m
        · subst e; exact ⟨j - 1, by omega, hk.2.symm⟩
        · exact ⟨j, by omega, rfl⟩
theorem sortL_le (zs : List (List UInt8)) : (sortL zs).Pairwise (· ≤ ·) := by
  have := List.pairwise_mergeSort (le := fun (x y : List UInt8) => decide (x ≤ y)) (fun a b c h1 h2 => by simp only [decide_eq_true_eq] at *; exact List.le_trans h1 h2) (fun a b => by simp only [Bool.or_eq_true, decide_eq_true_eq]; exact List.le_total a b) zs
  exact this.imp (fun h => by simpa using h)
theorem keysM_SS (raw : List ByteArray) : SS (compactS (sortS raw)) ∧ ∀ x, x ∈ compactS (sortS raw) ↔ x ∈ raw := by
  have hb : byts (sortS raw) = sortL (byts raw) := by
    simp [sortS, byts, strs', Function.comp_def]
  have hle := sortL_le (byts raw)
  have hp : (sortL (byts raw)).Perm (byts raw) := List.mergeSort_perm _ _
  have hget : ∀ i : Nat, i < (sortL (byts raw)).length → (sortL (byts raw)).toArray[i]! = (sortL (byts raw))[i]! := fun i hi => by simp
  obtain ⟨h1, h2⟩ := kept_spec (sortL (byts raw)).toArray (fun i j hij hj => by
    have hj' : j < (sortL (byts raw)).length := by simpa using hj
    rcases Nat.eq_or_lt_of_le hij with e | hlt
    · subst e; exact List.le_refl _
    · have := List.pairwise_iff_getElem.1 hle i j (by omega) hj' hlt
      simpa [getElem!_pos, hj', show i < (sortL (byts raw)).length by omega] using this) (sortL (byts raw)).length (by simp)
  rw [compactS, hb]
  constructor
  · unfold SS strs'
    rw [List.pairwise_map]
    refine h1.imp (fun {a b} h => ?_)
    rw [strLt, bytesLess_eq, decide_eq_true_eq, ByteArray.toList_eq, ByteArray.toList_eq]
    simpa using h
  · intro x
    simp only [strs', List.mem_map]
    constructor
    · rintro ⟨z, hz, rfl⟩
      obtain ⟨j, hj, rfl⟩ := (h2 z).1 hz
      have hm : (sortL (byts raw)).toArray[j]! ∈ byts raw := hp.mem_iff.1 (by rw [hget j hj, getElem!_pos _ j hj]; exact List.getElem_mem hj)
      obtain ⟨y, hy, e⟩ := List.mem_map.1 hm
      rw [← e]
      simpa using hy
    · intro hx
      refine ⟨x.data.toList, ?_, by simp⟩
      have hm : x.data.toList ∈ sortL (byts raw) := hp.mem_iff.2 (List.mem_map.2 ⟨x, hx, rfl⟩)
      obtain ⟨j, hj, e⟩ := List.getElem_of_mem hm
      exact (h2 _).2 ⟨j, hj, by rw [hget j hj, getElem!_pos _ j hj]; exact e⟩
theorem keysM_eq (s : GState) (m : Bool) (o : ByteArray) : keysM s m o = keysS s m o := by
  obtain ⟨h1, h2⟩ := keys_spec s m o s.lives.length
  obtain ⟨h3, h4⟩ := keysM_SS (rawUpto s m o s.lives.length)
  exact SS_unique h3 h1 fun x => (h4 x).trans (h2 x).symm

@[simp] def h27 : Hts := {  }
theorem f27_ok (s : GState) (o : ByteArray) (ha : s.lives.length ≤ 1073741824) : FnR Try.prog 27 [.agg [.im s.know.length (flat s.know), .im s.tallies.length (flat s.tallies), .im s.lives.length (flat s.lives), .im s.cs.length (flat s.cs)], .v (.str o)] (.v (.ow 9 1 (keysS s true o).length (flat (keysS s true o)))) := by
  refine FnW.of_AW TryT_ok 0 (fn := Try.f27) (by kernel_rfl) rfl (by kernel_rfl) rfl rfl rfl ?_
  refine AW_of h27 TryT_ok (by kernel_rfl) ?_
  simp -dsimp
  have h := f84_ok s true o ha
  rw [keysM_eq] at h
  refine ACallK_of h ?_
  simp -dsimp
@[simp] def h33 : Hts := {  }
theorem f33_ok (s : GState) (o : ByteArray) (ha : s.lives.length ≤ 1073741824) : FnR Try.prog 33 [.agg [.im s.know.length (flat s.know), .im s.tallies.length (flat s.tallies), .im s.lives.length (flat s.lives), .im s.cs.length (flat s.cs)], .v (.str o)] (.v (.ow 9 1 (keysS s false o).length (flat (keysS s false o)))) := by
  refine FnW.of_AW TryT_ok 0 (fn := Try.f33) (by kernel_rfl) rfl (by kernel_rfl) rfl rfl rfl ?_
  refine AW_of h33 TryT_ok (by kernel_rfl) ?_
  simp -dsimp
  have h := f84_ok s false o ha
  rw [keysM_eq] at h
  refine ACallK_of h ?_
  simp -dsimp
end Am
