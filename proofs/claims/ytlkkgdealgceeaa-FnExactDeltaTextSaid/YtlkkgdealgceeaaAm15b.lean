/- What is handed over for the time of a call. No condition. -/
import Derived.Test.YtlkkgdealgceeaaAm15
namespace Am
open Go
set_option linter.unusedSimpArgs false
set_option linter.unusedVariables false
set_option linter.unnecessarySimpa false

/-- What stands behind a call under a name that was handed over: the object, what it kept, what came back. -/
structure Ent where
  name : Nat
  ob : AObj
  keep : List Nat
  piece : List Nat
  fp : List Nat

def bkOf (L : List Ent) : List (Nat × AObj) := L.map fun e => (e.name, e.ob)

structure EntOk (C : Ctx) (σ : AEnv) (w : World) (ι : Nat → Value) (Fs : Nat → List Nat) (F : List Nat) (w' : World) (U' : Nat → Prop) (e : Ent) : Prop where
  there : σ.o e.name ≠ .none
  keepIn : ∀ k, k ∈ e.keep → k ∈ Fs e.name
  keepF : ∀ k, k ∈ e.keep → k ∉ F
  keepNd : e.keep.Nodup
  perm : e.fp.Perm (e.keep ++ e.piece)
  kind : e.ob = .dead ∨ (∃ cs cs', σ.o e.name = .box cs ∧ e.ob = .box cs') ∨ (∃ g ety esz n cs g' ety' esz' n' cs', σ.o e.name = .arr g ety esz n cs ∧ e.ob = .arr g' ety' esz' n' cs' ∧ g ≤ g' ∧
      (g = g' → ∀ off, isOw cs' off → isOw cs off ∧ ∀ b, (ι e.name).ownBlock = some b → w'.cell? ⟨b, off, none⟩ = w.cell? ⟨b, off, none⟩))
  ob : ∀ (U'' : Nat → Prop) (O'' : Nat → AObj), (∀ k, U' k → U'' k) → (∀ k, Un C w Fs k → U'' k) → ObR w' U'' O'' ι e.ob (ι e.name) e.fp

section
variable {P : Program} {T : Ty} {C : Ctx} {σ : AEnv} {a : Act} {w w' : World} {ι : Nat → Value} {Fs : Nat → List Nat} {τ : Nat → AObj}

theorem bk_o : ∀ {L : List Ent}, (L.map Ent.name).Nodup → ∀ e, e ∈ L → (AEnv.wr (bkOf L) σ).o e.name = e.ob
  | [], _, e, h => by cases h
  | x :: L, hn, e, h => by
    simp only [List.map_cons, List.nodup_cons] at hn
    simp only [bkOf, List.map_cons, AEnv.wr, AEnv.upd]
    rcases List.mem_cons.1 h with rfl | h
    · rw [if_pos rfl]
    · rw [if_neg (fun e' => hn.1 (by rw [← e']; exact List.mem_map_of_mem h))]
      exact bk_o hn.2 e h

theorem bk_other {L : List Ent} {x : Nat} (h : x ∉ L.map Ent.name) : (AEnv.wr (bkOf L) σ).o x = σ.o x :=
  wr_o_other (fun k ob hm e => by
    subst e
    obtain ⟨en, h1, h2⟩ := List.mem_map.1 hm
    cases h2
    exact h (List.mem_map_of_mem h1))

theorem find_name {L : List Ent} (hn : (L.map Ent.name).Nodup) {e : Ent} (he : e ∈ L) : L.find? (fun x => x.name == e.name) = some e := by
  induction L with
  | nil => cases he
  | cons x L ih =>
    simp only [List.map_cons, List.nodup_cons] at hn
    rcases List.mem_cons.1 he with rfl | he
    · simp
    · rw [List.find?_cons_of_neg]
      · exact ih hn.2 he
      · intro hx
        have : x.name = e.name := by simpa using hx
        exact hn.1 (by rw [this]; exact List.mem_map_of_mem he)

theorem find_none' {L : List Ent} {o : Nat} (h : o ∉ L.map Ent.name) : L.find? (fun x => x.name == o) = none := by
  rw [List.find?_eq_none]
  intro x hx hxo
  have : x.name = o := by simpa using hxo
  exact h (by rw [← this]; exact List.mem_map_of_mem hx)

theorem piece_nodup : ∀ {L : List Ent}, (L.flatMap Ent.piece).Nodup → ∀ e, e ∈ L → e.piece.Nodup
  | [], _, e, he => by cases he
  | y :: L, h, e, he => by
    simp only [List.flatMap_cons, List.nodup_append] at h
    rcases List.mem_cons.1 he with rfl | he
    · exact h.1
    · exact piece_nodup h.2.1 e he

theorem piece_disj : ∀ {L : List Ent}, (L.flatMap Ent.piece).Nodup → ∀ e1 e2, e1 ∈ L → e2 ∈ L → e1.name ≠ e2.name → ∀ k, k ∈ e1.piece → k ∉ e2.piece
  | [], _, e1, _, he1, _, _, _, _ => by cases he1
  | y :: L, h, e1, e2, he1, he2, hne, k, h1 => fun h2 => by
    simp only [List.flatMap_cons, List.nodup_append] at h
    rcases List.mem_cons.1 he1 with hm1 | hm1 <;> rcases List.mem_cons.1 he2 with hm2 | hm2
    · exact hne (by rw [hm1, hm2])
    · subst hm1; exact h.2.2 k h1 k (List.mem_flatMap.2 ⟨e2, hm2, h2⟩) rfl
    · subst hm2; exact h.2.2 k h2 k (List.mem_flatMap.2 ⟨e1, hm1, h1⟩) rfl
    · exact piece_disj h.2.1 e1 e2 hm1 hm2 hne k h1 h2

theorem Sim.handed (h : Sim C σ a w ι Fs) {F : List Nat} (hg : GrownF w w' F) {L : List Ent} {G : List Nat} {g : Nat} {U' : Nat → Prop} (hgn : σ.o g = .none) (hLn : (L.map Ent.name).Nodup)
    (hF : ∀ k, k ∈ F → ∃ e, e ∈ L ∧ k ∈ Fs e.name) (hok : ∀ e, e ∈ L → EntOk C σ w ι Fs F w' U' e) (hnd : (G ++ L.flatMap Ent.piece).Nodup)
    (hfr : ∀ k, k ∈ G ++ L.flatMap Ent.piece → k < w'.heap.size ∧ (w.heap.size ≤ k ∨ k ∈ F))
    (hU' : ∀ k, U' k → k < w'.heap.size ∧ (Un C w Fs k ∨ w.heap.size ≤ k ∨ k ∈ F) ∧ k ∉ G ++ L.flatMap Ent.piece) :
    ∃ Fs', Sim C (AEnv.wr (bkOf L) σ) a w' ι Fs' ∧ Fs' g = G ∧ (∀ k, U' k → Un C w' Fs' k) ∧ (∀ k, Un C w Fs k → Un C w' Fs' k) ∧ Later w w' (Un C w Fs) (Un C w' Fs') σ.o (AEnv.wr (bkOf L) σ).o ι ι ∧ (∀ e, e ∈ L → Fs' e.name = e.fp) := by
  let Fs' : Nat → List Nat := fun o => if o = g then G else match L.find? (fun x => x.name == o) with | some e => e.fp | none => Fs o
  have hgL : g ∉ L.map Ent.name := fun hm => by
    obtain ⟨e, h1, h2⟩ := List.mem_map.1 hm
    exact (hok e h1).there (by rw [h2]; exact hgn)
  have hFg : Fs' g = G := if_pos rfl
  have hFe : ∀ e, e ∈ L → Fs' e.name = e.fp := fun e he => by
    have hne : e.name ≠ g := fun e' => hgL (e' ▸ List.mem_map_of_mem he)
    show (if e.name = g then G else _) = _
    rw [if_neg hne, find_name hLn he]
  have hFo : ∀ o, o ≠ g → o ∉ L.map Ent.name → Fs' o = Fs o := fun o h1 h2 => by
    show (if o = g then G else _) = _
    rw [if_neg h1, find_none' h2]
  have hpiece : ∀ e, e ∈ L → ∀ k, k ∈ e.piece → k ∈ G ++ L.flatMap Ent.piece := fun e he k hk => List.mem_append_right _ (List.mem_flatMap.2 ⟨e, he, hk⟩)
  have hin : ∀ o k, k ∈ Fs' o → (k ∈ Fs o ∧ k ∉ F ∧ (o ≠ g)) ∨ k ∈ G ++ L.flatMap Ent.piece := fun o k hk => by
    by_cases h1 : o = g
    · subst h1; rw [hFg] at hk; exact .inr (List.mem_append_left _ hk)
    · by_cases h2 : o ∈ L.map Ent.name
      · obtain ⟨e, he, rfl⟩ := List.mem_map.1 h2
        rw [hFe e he] at hk
        replace hk := (hok e he).perm.mem_iff.1 hk
        rcases List.mem_append.1 hk with hk | hk
        · exact .inl ⟨(hok e he).keepIn k hk, (hok e he).keepF k hk, h1⟩
        · exact .inr (hpiece e he k hk)
      · rw [hFo o h1 h2] at hk
        refine .inl ⟨hk, fun hkF => ?_, h1⟩
        obtain ⟨e, he, hke⟩ := hF k hkF
        exact h.dis o e.name (fun e' => h2 (e' ▸ List.mem_map_of_mem he)) k hk hke
  have hUn : ∀ k, Un C w Fs k → Un C w' Fs' k := fun k hk => ⟨Nat.lt_of_lt_of_le hk.1 hg.size, hk.2.1, fun o ho => by
    rcases hin o k ho with ⟨h1, _⟩ | h1
    · exact hk.2.2 o h1
    · rcases (hfr k h1).2 with h2 | h2
      · have := hk.1; omega
      · obtain ⟨e, _, he⟩ := hF k h2
        exact hk.2.2 e.name he⟩
  have hUU : ∀ k, U' k → Un C w' Fs' k := fun k hk => by
    obtain ⟨h1, h2, h3⟩ := hU' k hk
    refine ⟨h1, ?_, fun o ho => ?_⟩
    · rcases h2 with h2 | h2 | h2
      · exact h2.2.1
      · exact .inr (.inr (Nat.le_trans h.kept.size h2))
      · obtain ⟨e, _, he⟩ := hF k h2
        rcases (h.own e.name k he).2 with h4 | h4
        · exact .inr (.inr h4)
        · exact .inr (.inl h4)
    · rcases hin o k ho with ⟨h4, h5, _⟩ | h4
      · rcases h2 with h2 | h2 | h2
        · exact h2.2.2 o h4
        · have := (h.own o k h4).1; omega
        · exact h5 h2
      · exact h3 h4
  have hX : ∀ o, o ∈ L.map Ent.name → ∃ e, e ∈ L ∧ o = e.name := fun o ho => by obtain ⟨e, h1, h2⟩ := List.mem_map.1 ho; exact ⟨e, h1, h2.symm⟩
  have M : Move C σ.o (AEnv.wr (bkOf L) σ).o w w' ι ι Fs Fs' (fun o => o = g ∨ o ∈ L.map Ent.name) := by
    refine ⟨hg.os, hg.tape, hg.output, hg.size, fun k hk hX' => hg.block k hk (fun hkF => ?_), fun o hX' => ?_, fun o hX' => ?_, fun o hX' => ?_, fun o hX' => ?_, fun o hX' k hk => ?_, fun o o' hX1 hX2 hne k hk hk' => ?_⟩
    · obtain ⟨e, he, hke⟩ := hF k hkF
      exact hX' e.name (.inr (List.mem_map_of_mem he)) hke
    · have h1 : o ≠ g := fun e => hX' (.inl e)
      have h2 : o ∉ L.map Ent.name := fun e => hX' (.inr e)
      exact ⟨bk_other h2, rfl, hFo o h1 h2⟩
    · rcases hX' with rfl | hX'
      · exact .inl hgn
      · obtain ⟨e, he, rfl⟩ := hX o hX'
        rcases (hok e he).kind with h1 | ⟨cs, cs', h1, h2⟩ | ⟨g1, e1, s1, n1, c1, g2, e2, s2, n2, c2, h1, h2, h3, h4⟩
        · exact .inr (.inl (by rw [bk_o hLn e he, h1]))
        · exact .inr (.inr (.inl ⟨cs, cs', h1, by rw [bk_o hLn e he, h2], rfl⟩))
        · exact .inr (.inr (.inr (.inl ⟨g1, e1, s1, n1, c1, g2, e2, s2, n2, c2, h1, by rw [bk_o hLn e he, h2], rfl, h3, h4⟩)))
    · rcases hX' with rfl | hX'
      · rw [bk_other hgL, hgn]; exact trivial
      · obtain ⟨e, he, rfl⟩ := hX o hX'
        rw [bk_o hLn e he, hFe e he]
        exact (hok e he).ob _ _ hUU hUn
    · rcases hX' with rfl | hX'
      · rw [hFg]; exact (List.nodup_append.1 hnd).1
      · obtain ⟨e, he, rfl⟩ := hX o hX'
        rw [hFe e he, (hok e he).perm.nodup_iff, List.nodup_append]
        refine ⟨(hok e he).keepNd, ?_, fun x hx y hy hxy => ?_⟩
        · exact piece_nodup (List.nodup_append.1 hnd).2.1 e he
        · subst hxy
          rcases (hfr x (hpiece e he x hy)).2 with h4 | h4
          · have := (h.own _ x ((hok e he).keepIn x hx)).1; omega
          · exact (hok e he).keepF x hx h4
    · rcases hin o k hk with ⟨h1, h2, h3⟩ | h1
      · exact ⟨Nat.lt_of_lt_of_le (h.own o k h1).1 hg.size, .inr ⟨o, hX', h1⟩⟩
      · refine ⟨(hfr k h1).1, ?_⟩
        rcases (hfr k h1).2 with h4 | h4
        · exact .inl h4
        · obtain ⟨e, he, hke⟩ := hF k h4
          exact .inr ⟨e.name, .inr (List.mem_map_of_mem he), hke⟩
    · -- two of them share nothing
      have key : ∀ e1 e2, e1 ∈ L → e2 ∈ L → e1.name ≠ e2.name → ∀ k, k ∈ e1.keep ++ e1.piece → k ∉ e2.keep ++ e2.piece := by
        intro e1 e2 he1 he2 hne k hk hk'
        rcases List.mem_append.1 hk with h1 | h1 <;> rcases List.mem_append.1 hk' with h2 | h2
        · exact h.dis _ _ hne k ((hok e1 he1).keepIn k h1) ((hok e2 he2).keepIn k h2)
        · rcases (hfr k (hpiece e2 he2 k h2)).2 with h4 | h4
          · have := (h.own _ k ((hok e1 he1).keepIn k h1)).1; omega
          · exact (hok e1 he1).keepF k h1 h4
        · rcases (hfr k (hpiece e1 he1 k h1)).2 with h4 | h4
          · have := (h.own _ k ((hok e2 he2).keepIn k h2)).1; omega
          · exact (hok e2 he2).keepF k h2 h4
        · exact piece_disj (List.nodup_append.1 hnd).2.1 e1 e2 he1 he2 hne k h1 h2
      have keyg : ∀ e, e ∈ L → ∀ k, k ∈ G → k ∉ e.keep ++ e.piece := by
        intro e he k hk hk'
        rcases List.mem_append.1 hk' with h2 | h2
        · rcases (hfr k (List.mem_append_left _ hk)).2 with h4 | h4
          · have := (h.own _ k ((hok e he).keepIn k h2)).1; omega
          · exact (hok e he).keepF k h2 h4
        · exact (List.nodup_append.1 hnd).2.2 k hk k (List.mem_flatMap.2 ⟨e, he, h2⟩) rfl
      rcases hX1 with rfl | hX1
      · rcases hX2 with rfl | hX2
        · exact hne rfl
        · obtain ⟨e, he, rfl⟩ := hX o' hX2
          rw [hFg] at hk; rw [hFe e he] at hk'
          replace hk' := (hok e he).perm.mem_iff.1 hk'
          exact keyg e he k hk hk'
      · obtain ⟨e1, he1, rfl⟩ := hX o hX1
        rw [hFe e1 he1] at hk
        replace hk := (hok e1 he1).perm.mem_iff.1 hk
        rcases hX2 with rfl | hX2
        · rw [hFg] at hk'; exact keyg e1 he1 k hk' hk
        · obtain ⟨e2, he2, rfl⟩ := hX o' hX2
          rw [hFe e2 he2] at hk'
          replace hk' := (hok e2 he2).perm.mem_iff.1 hk'
          exact key e1 e2 he1 he2 hne k hk hk'
  refine ⟨Fs', ?_, hFg, hUU, hUn, h.later M, hFe⟩
  have e1 : AEnv.wr (bkOf L) σ = ⟨σ.t, (AEnv.wr (bkOf L) σ).o⟩ := AEnv.eqv (wr_t' _ _) rfl
  rw [e1]
  exact h.move M

/-- A box's cells, better known. -/
theorem Sim.refine (h : Sim C σ a w ι Fs) {b : Nat} {cs cs' : List AV} (ho : σ.o b = .box cs) (hr : ∀ k vals ty, ι b = .pointer (some ⟨k, 0, none⟩) → w.heap[k]? = some (.cells vals ty (0, 0)) → ARs w (Un C w Fs) σ.o ι cs' vals.toList) :
    Sim C (σ.upd b (.box cs')) a w ι Fs := by
  have hob := h.ob b
  rw [ho] at hob
  obtain ⟨k, vals, ty, h1, h2, h3, h4, h5⟩ := hob
  have M : Move C σ.o (σ.upd b (.box cs')).o w w ι ι Fs Fs (· = b) := by
    have hO : ∀ x, (σ.upd b (.box cs')).o x = if x = b then .box cs' else σ.o x := fun x => rfl
    have hL : Later w w (Un C w Fs) (Un C w Fs) σ.o (σ.upd b (.box cs')).o ι ι := ⟨fun _ hk => hk, fun _ _ => rfl, fun o => by
      by_cases e : o = b
      · subst e; exact .inr (.inr (.inl ⟨cs, cs', ho, by rw [hO, if_pos rfl], rfl⟩))
      · have := (Later.refl h).name o
        rw [hO, if_neg e]; exact this⟩
    refine ⟨rfl, rfl, rfl, Nat.le_refl _, fun _ _ _ => rfl, fun o hX => ⟨by rw [hO, if_neg hX], rfl, rfl⟩, fun o hX => ?_, fun o hX => ?_, fun o hX => h.nd o, fun o hX y hy => ⟨(h.own o y hy).1, .inr ⟨o, hX, hy⟩⟩, fun o o' hX hX' hne => absurd (hX.trans hX'.symm) hne⟩
    · subst hX; exact .inr (.inr (.inl ⟨cs, cs', ho, by rw [hO, if_pos rfl], rfl⟩))
    · subst hX; rw [hO, if_pos rfl]
      exact ⟨k, vals, ty, h1, h2, ARs_later hL _ _ (hr k vals ty h1 h2), h4, h5⟩
  have := h.move M
  exact this

end
end Am
