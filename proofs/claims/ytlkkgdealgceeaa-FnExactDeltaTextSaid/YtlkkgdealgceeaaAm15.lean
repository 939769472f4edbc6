/- What a call hands back comes in. No condition. -/
import Derived.Test.YtlkkgdealgceeaaAm14
namespace Am
open Go
set_option linter.unusedSimpArgs false
set_option linter.unusedVariables false

theorem wr_append (r1 r2 : List (Nat × AObj)) (σ : AEnv) : AEnv.wr (r1 ++ r2) σ = AEnv.wr r1 (AEnv.wr r2 σ) := by
  induction r1 with
  | nil => rfl
  | cons x r1 ih => obtain ⟨k, ob⟩ := x; simp only [List.cons_append, AEnv.wr, ih]

theorem wr_t (r : List (Nat × AObj)) (σ : AEnv) : (AEnv.wr r σ).t = σ.t := wr_t' r σ

theorem wr_o_other {r : List (Nat × AObj)} {σ : AEnv} {x : Nat} (h : ∀ k ob, (k, ob) ∈ r → x ≠ k) : (AEnv.wr r σ).o x = σ.o x := wr_o_other' h

section
variable {P : Program} {T : Ty} {C : Ctx} {σ : AEnv} {a : Act} {w w' : World} {ι : Nat → Value} {Fs : Nat → List Nat} {τ : Nat → AObj}

/-- What is known behind one part's coming in. -/
structure Came (C : Ctx) (σ : AEnv) (a : Act) (w : World) (ι : Nat → Value) (Fs : Nat → List Nat) (g : Nat) (Fp : List Nat) (oe : List (Nat × AObj)) (ι' : Nat → Value) (Fs' : Nat → List Nat) : Prop where
  sim : Sim C (AEnv.wr oe σ) a w ι' Fs'
  ghost : ∀ b, b ∈ Fs' g ↔ b ∈ Fs g ∧ b ∉ Fp
  later : Later w w (Un C w Fs) (Un C w Fs') σ.o (AEnv.wr oe σ).o ι ι'

theorem Later.refl (h : Sim C σ a w ι Fs) : Later w w (Un C w Fs) (Un C w Fs) σ.o σ.o ι ι :=
  ⟨fun k hk => hk, fun k _ => rfl, fun o => by
    cases hO : σ.o o with
    | none => exact .inl rfl
    | dead => exact .inr (.inl rfl)
    | box c => exact .inr (.inr (.inl ⟨c, c, rfl, rfl, rfl⟩))
    | mp Q => exact .inr (.inr (.inr (.inr ⟨Q, Q, rfl, rfl, rfl⟩)))
    | arr g1 e1 s1 n1 c => exact .inr (.inr (.inr (.inl ⟨g1, e1, s1, n1, c, g1, e1, s1, n1, c, rfl, rfl, rfl, Nat.le_refl _, fun _ off hi => ⟨hi, fun _ _ => rfl⟩⟩)))⟩

theorem Later.trans {w1 w2 w3 : World} {U1 U2 U3 : Nat → Prop} {O1 O2 O3 : Nat → AObj} {ι1 ι2 ι3 : Nat → Value} (h : Later w1 w2 U1 U2 O1 O2 ι1 ι2) (h' : Later w2 w3 U2 U3 O2 O3 ι2 ι3)
    (hd : ∀ o, O2 o = .dead → O3 o = .dead) : Later w1 w3 U1 U3 O1 O3 ι1 ι3 :=
  ⟨fun k hk => h'.u k (h.u k hk), fun k hk => (h'.heap k (h.u k hk)).trans (h.heap k hk), fun o => by
    rcases h.name o with h1 | h1 | ⟨cs, cs', h1, h2, h3⟩ | ⟨y1, e1, s1, n1, c1, y2, e2, s2, n2, c2, h1, h2, h3, h5, h4⟩ | ⟨Q, Q', h1, h2, h3⟩
    · exact .inl h1
    · exact .inr (.inl (hd o h1))
    · rcases h'.name o with g1 | g1 | ⟨ds, ds', g1, g2, g3⟩ | ⟨y3, e3, s3, n3, c3, y4, e4, s4, n4, c4, g1, g2, g3, g5, g4⟩ | ⟨R, R', g1, g2, g3⟩
      · rw [h2] at g1; cases g1
      · exact .inr (.inl g1)
      · exact .inr (.inr (.inl ⟨cs, ds', h1, g2, g3.trans h3⟩))
      · rw [h2] at g1; cases g1
      · rw [h2] at g1; cases g1
    · rcases h'.name o with g1 | g1 | ⟨ds, ds', g1, g2, g3⟩ | ⟨y3, e3, s3, n3, c3, y4, e4, s4, n4, c4, g1, g2, g3, g5, g4⟩ | ⟨R, R', g1, g2, g3⟩
      · rw [h2] at g1; cases g1
      · exact .inr (.inl g1)
      · rw [h2] at g1; cases g1
      · rw [h2] at g1
        cases g1
        exact .inr (.inr (.inr (.inl ⟨y1, e1, s1, n1, c1, y4, e4, s4, n4, c4, h1, g2, g3.trans h3, Nat.le_trans h5 g5, fun hy off hi => by
          have hy1 : y1 = y2 := Nat.le_antisymm h5 (hy ▸ g5)
          obtain ⟨i1, i2⟩ := g4 (hy1 ▸ hy) off hi
          obtain ⟨j1, j2⟩ := h4 hy1 off i1
          exact ⟨j1, fun b hb => (i2 b (by rw [h3]; exact hb)).trans (j2 b hb)⟩⟩)))
      · rw [h2] at g1; cases g1
    · rcases h'.name o with g1 | g1 | ⟨ds, ds', g1, g2, g3⟩ | ⟨y3, e3, s3, n3, c3, y4, e4, s4, n4, c4, g1, g2, g3, g5, g4⟩ | ⟨R, R', g1, g2, g3⟩
      · rw [h2] at g1; cases g1
      · exact .inr (.inl g1)
      · rw [h2] at g1; cases g1
      · rw [h2] at g1; cases g1
      · exact .inr (.inr (.inr (.inr ⟨Q, R', h1, g2, g3.trans h3⟩)))⟩

/-- What was put aside (under the ghost name g) is taken: under a name, or let go. -/
theorem Sim.take (h : Sim C σ a w ι Fs) {g k : Nat} (hg : σ.o g = .none) (hk : σ.o k = .none) (hkg : k ≠ g) {Fp : List Nat} (hsub : ∀ b, b ∈ Fp → b ∈ Fs g) (hnd : Fp.Nodup)
    {e s n : Nat} {cs : List PV} {v : Value} (hR : R w (Un C w Fs) (.ow e s n cs) v Fp) :
    Came C σ a w ι Fs g Fp [(k, .arr 0 e s n cs)] (fupd ι k v) (fupd (fupd Fs g ((Fs g).filter fun b => b ∉ Fp)) k Fp) := by
  have hFs : ∀ o, o ≠ k → o ≠ g → fupd (fupd Fs g ((Fs g).filter fun b => b ∉ Fp)) k Fp o = Fs o := fun o h1 h2 => by rw [fupd_ne _ h1, fupd_ne _ h2]
  have hFk : fupd (fupd Fs g ((Fs g).filter fun b => b ∉ Fp)) k Fp k = Fp := fupd_same _ _ _
  have hFg : fupd (fupd Fs g ((Fs g).filter fun b => b ∉ Fp)) k Fp g = (Fs g).filter fun b => b ∉ Fp := by rw [fupd_ne _ (Ne.symm hkg), fupd_same]
  have hin : ∀ o b, b ∈ fupd (fupd Fs g ((Fs g).filter fun b => b ∉ Fp)) k Fp o → b ∈ Fs o ∨ b ∈ Fs g := fun o b hb => by
    by_cases h1 : o = k
    · subst h1; rw [hFk] at hb; exact .inr (hsub b hb)
    · by_cases h2 : o = g
      · subst h2; rw [hFg] at hb; exact .inl ((List.mem_filter.1 hb).1)
      · rw [hFs o h1 h2] at hb; exact .inl hb
  have hU : ∀ j, Un C w Fs j → Un C w (fupd (fupd Fs g ((Fs g).filter fun b => b ∉ Fp)) k Fp) j := fun j hj =>
    ⟨hj.1, hj.2.1, fun o ho => by
      rcases hin o j ho with h1 | h1
      · exact hj.2.2 o h1
      · exact hj.2.2 g h1⟩
  have hO : ∀ x, (AEnv.wr [(k, .arr 0 e s n cs)] σ).o x = if x = k then .arr 0 e s n cs else σ.o x := fun x => rfl
  have M : Move C σ.o (AEnv.wr [(k, .arr 0 e s n cs)] σ).o w w ι (fupd ι k v) Fs (fupd (fupd Fs g ((Fs g).filter fun b => b ∉ Fp)) k Fp) (fun o => o = k ∨ o = g) := by
    refine ⟨rfl, rfl, rfl, Nat.le_refl _, fun _ _ _ => rfl, fun o hX => ?_, fun o hX => ?_, fun o hX => ?_, fun o hX => ?_, fun o hX b hb => ?_, fun o o' hX hX' hne b hb hb' => ?_⟩
    · have h1 : o ≠ k := fun e => hX (.inl e)
      have h2 : o ≠ g := fun e => hX (.inr e)
      exact ⟨by rw [hO, if_neg h1], fupd_ne _ h1 _, hFs o h1 h2⟩
    · rcases hX with rfl | rfl
      · exact .inl hk
      · exact .inl hg
    · rcases hX with rfl | rfl
      · rw [hO, if_pos rfl, fupd_same, hFk]
        simp only [R] at hR
        obtain ⟨xs, F', ho, hr, hF⟩ := hR
        exact ⟨xs, F', ho, Rs_mono hU (fun _ _ => rfl) _ _ _ hr (fun _ _ => rfl), hF⟩
      · rw [hO, if_neg (Ne.symm hkg), hg]; exact trivial
    · rcases hX with rfl | rfl
      · rw [hFk]; exact hnd
      · rw [hFg]; exact (h.nd o).sublist List.filter_sublist
    · rcases hX with rfl | rfl
      · rw [hFk] at hb
        exact ⟨(h.own g b (hsub b hb)).1, .inr ⟨g, .inr rfl, hsub b hb⟩⟩
      · rw [hFg] at hb
        have := (List.mem_filter.1 hb).1
        exact ⟨(h.own o b this).1, .inr ⟨o, .inr rfl, this⟩⟩
    · rcases hX with rfl | rfl
      · rcases hX' with rfl | rfl
        · exact hne rfl
        · rw [hFk] at hb; rw [hFg] at hb'
          have := (List.mem_filter.1 hb').2
          simp at this
          exact this hb
      · rcases hX' with rfl | rfl
        · rw [hFk] at hb'; rw [hFg] at hb
          have := (List.mem_filter.1 hb).2
          simp at this
          exact this hb'
        · exact hne rfl
  have e : AEnv.wr [(k, .arr 0 e s n cs)] σ = ⟨σ.t, (AEnv.wr [(k, .arr 0 e s n cs)] σ).o⟩ := rfl
  refine ⟨by rw [e]; exact h.move M, fun b => ?_, h.later M⟩
  rw [hFg, List.mem_filter]
  simp

theorem Sim.letgo (h : Sim C σ a w ι Fs) {g : Nat} (hg : σ.o g = .none) (Fp : List Nat) :
    Came C σ a w ι Fs g Fp [] ι (fupd Fs g ((Fs g).filter fun b => b ∉ Fp)) := by
  have M : Move C σ.o σ.o w w ι ι Fs (fupd Fs g ((Fs g).filter fun b => b ∉ Fp)) (· = g) := by
    refine ⟨rfl, rfl, rfl, Nat.le_refl _, fun _ _ _ => rfl, fun o hX => ⟨rfl, rfl, fupd_ne _ hX _⟩, fun o hX => .inl (hX ▸ hg), fun o hX => ?_, fun o hX => ?_, fun o hX b hb => ?_, fun o o' hX hX' hne => absurd (hX.trans hX'.symm) hne⟩
    · subst hX; rw [hg]; exact trivial
    · subst hX; rw [fupd_same]; exact (h.nd o).sublist List.filter_sublist
    · subst hX; rw [fupd_same] at hb
      have := (List.mem_filter.1 hb).1
      exact ⟨(h.own o b this).1, .inr ⟨o, rfl, this⟩⟩
  refine ⟨h.move M, fun b => ?_, h.later M⟩
  rw [fupd_same, List.mem_filter]
  simp

theorem Came.un {g : Nat} {Fp : List Nat} {oe : List (Nat × AObj)} {ι' : Nat → Value} {Fs' : Nat → List Nat} (h : Came C σ a w ι Fs g Fp oe ι' Fs') {k : Nat} (hk : Un C w Fs k) : Un C w Fs' k := h.later.u k hk

theorem impCell_came (h : Sim C σ a w ι Fs) {g k : Nat} (hg : σ.o g = .none) {own : Bool} {p : PV} (hk : ∀ x ob, (x, ob) ∈ (impCell own k p).2 → σ.o x = .none) (hkg : k ≠ g) {v : Value} {Fp : List Nat} (hR : R w (Un C w Fs) p v Fp) (hsub : ∀ b, b ∈ Fp → b ∈ Fs g) (hnd : Fp.Nodup) :
    ∃ ι' Fs', Came C σ a w ι Fs g Fp (impCell own k p).2 ι' Fs' ∧ AR w (Un C w Fs') (AEnv.wr (impCell own k p).2 σ).o ι' (impCell own k p).1 v := by
  by_cases hp : isFree p = true
  · have := R_free hR hp
    subst this
    have he : impCell own k p = (.c p, []) := by cases p <;> first | rfl | simp [isFree] at hp
    rw [he]
    exact ⟨ι, Fs, ⟨h, by simp, Later.refl h⟩, AR_c.2 hR⟩
  · cases p with
    | ow e s n cs =>
      cases own with
      | true =>
        simp only [impCell, if_true]
        refine ⟨_, _, h.take hg (hk k (.arr 0 e s n cs) (by simp [impCell])) hkg hsub hnd hR, ?_⟩
        simp only [AR, AEnv.wr, AEnv.upd, if_true, fupd_same]
      | false =>
        simp only [impCell, Bool.false_eq_true, if_false]
        have hc := h.letgo hg Fp
        refine ⟨_, _, hc, AR_c.2 ?_⟩
        have hfz := R_frz (U := Un C w Fs) (U' := Un C w (fupd Fs g ((Fs g).filter fun b => b ∉ Fp))) (fun k hk => hc.un hk) _ _ _ hR (fun b hb => by
          have hbg := hsub b hb
          refine ⟨(h.own g b hbg).1, ?_, fun o ho => ?_⟩
          · rcases (h.own g b hbg).2 with h1 | h1
            · exact .inr (.inr h1)
            · exact .inr (.inl h1)
          · by_cases e : o = g
            · subst e; rw [fupd_same] at ho
              have := (List.mem_filter.1 ho).2
              simp at this
              exact this hb
            · rw [fupd_ne _ e] at ho
              exact h.dis o g e b ho hbg)
        simpa only [frz] using hfz
    | _ => exact absurd rfl hp

theorem impCell_oe {own : Bool} {k : Nat} {p : PV} : ∀ x ob, (x, ob) ∈ (impCell own k p).2 → x = k ∧ ∃ e s n cs, ob = .arr 0 e s n cs := by
  intro x ob hm
  cases p <;> simp only [impCell] at hm
  case ow e s n cs =>
    split at hm
    · simp at hm; exact ⟨hm.1, e, s, n, cs, hm.2⟩
    · cases hm
  all_goals cases hm

theorem impCells_oe {own : Bool} : ∀ {ps : List PV} {k : Nat} (x : Nat) (ob : AObj), (x, ob) ∈ (impCells own k ps).2 → (k ≤ x ∧ x < k + ps.length) ∧ ∃ e s n cs, ob = .arr 0 e s n cs
  | [], _, _, _, h => by simp [impCells] at h
  | p :: ps, k, x, ob, h => by
    simp only [impCells, List.mem_append] at h
    rcases h with h | h
    · obtain ⟨rfl, h2⟩ := impCell_oe x ob h; exact ⟨by simp, h2⟩
    · obtain ⟨h1, h2⟩ := impCells_oe x ob h; exact ⟨by simp; omega, h2⟩

theorem wr_arr_dead {r : List (Nat × AObj)} (h : ∀ x ob, (x, ob) ∈ r → σ.o x = .none) : ∀ o, σ.o o = .dead → (AEnv.wr r σ).o o = .dead := by
  intro o ho
  rw [wr_o_other (fun k ob hm e => by subst e; rw [h o ob hm] at ho; cases ho)]
  exact ho

theorem impCells_came {own : Bool} {g : Nat} : ∀ {ps : List PV} {vs : List Value} {Fp : List Nat} {k : Nat} {σ : AEnv} {ι : Nat → Value} {Fs : Nat → List Nat}, Sim C σ a w ι Fs → σ.o g = .none → (∀ x ob, (x, ob) ∈ (impCells own k ps).2 → σ.o x = .none) → k + ps.length ≤ g →
    Rs w (Un C w Fs) ps vs Fp → (∀ b, b ∈ Fp → b ∈ Fs g) → Fp.Nodup →
    ∃ ι' Fs', Came C σ a w ι Fs g Fp (impCells own k ps).2 ι' Fs' ∧ ARs w (Un C w Fs') (AEnv.wr (impCells own k ps).2 σ).o ι' (impCells own k ps).1 vs
  | [], [], Fp, k, σ, ι, Fs, h, hg, hk, hkg, hR, hsub, hnd => by
    simp only [Rs] at hR
    subst hR
    exact ⟨ι, Fs, ⟨h, by simp, Later.refl h⟩, by simp [impCells, ARs]⟩
  | p :: ps, v :: vs, Fp, k, σ, ι, Fs, h, hg, hk, hkg, hR, hsub, hnd => by
    simp only [List.length_cons] at hkg
    simp only [Rs] at hR
    obtain ⟨F1, F2, h1, h2, rfl⟩ := hR
    rw [List.nodup_append] at hnd
    obtain ⟨ι1, Fs1, c1, r1⟩ := impCells_came (own := own) (k := k + 1) h hg (fun x ob hm => hk x ob (by simp only [impCells]; exact List.mem_append_right _ hm)) (by omega) h2 (fun b hb => hsub b (by simp [hb])) hnd.2.1
    have hσ1g : (AEnv.wr (impCells own (k + 1) ps).2 σ).o g = .none := by
      rw [wr_o_other (fun x ob hm e => ?_)]
      · exact hg
      · subst e
        have := (impCells_oe _ _ hm).1
        omega
    have hσ1k : ∀ x ob, (x, ob) ∈ (impCell own k p).2 → (AEnv.wr (impCells own (k + 1) ps).2 σ).o x = .none := fun x ob hm => by
      rw [wr_o_other (fun y ob' hm' e => ?_)]
      · exact hk x ob (by simp only [impCells]; exact List.mem_append_left _ hm)
      · subst e
        have h1 := (impCells_oe _ _ hm').1
        have h2 := (impCell_oe _ _ hm).1
        omega
    obtain ⟨ι2, Fs2, c2, r2⟩ := impCell_came (own := own) c1.sim hσ1g hσ1k (by omega) (R_mono (fun j hj => c1.un hj) (fun _ _ => rfl) p v F1 h1 (fun _ _ => rfl))
      (fun b hb => (c1.ghost b).2 ⟨hsub b (by simp [hb]), fun hb2 => hnd.2.2 b hb b hb2 rfl⟩) hnd.1
    refine ⟨ι2, Fs2, ⟨?_, fun b => ?_, ?_⟩, ?_⟩
    · simp only [impCells]; rw [wr_append]; exact c2.sim
    · rw [c2.ghost, c1.ghost]
      simp only [List.mem_append, not_or]
      constructor
      · rintro ⟨⟨x1, x2⟩, x3⟩; exact ⟨x1, x3, x2⟩
      · rintro ⟨x1, x3, x2⟩; exact ⟨⟨x1, x2⟩, x3⟩
    · simp only [impCells]; rw [wr_append]
      exact c1.later.trans c2.later (wr_arr_dead hσ1k)
    · simp only [impCells, ARs]; rw [wr_append]
      exact ⟨r2, ARs_later c2.later _ _ r1⟩
  | [], _ :: _, _, _, _, _, _, _, _, _, _, h, _, _ => by simp only [Rs] at h
  | _ :: _, [], _, _, _, _, _, _, _, _, _, h, _, _ => by simp only [Rs] at h

/-- Parts of at most twenty cells. -/
def small1 : CV → Bool
  | .agg ps => decide (ps.length ≤ 20)
  | .v _ => true
  | .any => true
  | _ => false

theorem impOne_oe {own : Bool} {k : Nat} {c : CV} (hs : small1 c = true) : ∀ x ob, (x, ob) ∈ (impOne own k c).2 → (k ≤ x ∧ x < k + 20) ∧ ∃ e s n cs, ob = .arr 0 e s n cs := by
  intro x ob hm
  cases c with
  | v p => obtain ⟨rfl, h⟩ := impCell_oe x ob hm; exact ⟨by omega, h⟩
  | agg ps => 
    simp only [small1, decide_eq_true_eq] at hs
    obtain ⟨h1, h2⟩ := impCells_oe x ob hm; exact ⟨by omega, h2⟩
  | _ => simp [impOne] at hm

theorem impOne_came {own : Bool} {g k : Nat} {c : CV} {v : Value} {Fp : List Nat} (h : Sim C σ a w ι Fs) (hg : σ.o g = .none) (hk : ∀ x ob, (x, ob) ∈ (impOne own k c).2 → σ.o x = .none) (hkg : k + 20 ≤ g) (hs : small1 c = true)
    (hR : CR w (Un C w Fs) c v Fp) (hsub : ∀ b, b ∈ Fp → b ∈ Fs g) (hnd : Fp.Nodup) :
    ∃ ι' Fs', Came C σ a w ι Fs g Fp (impOne own k c).2 ι' Fs' ∧ AR w (Un C w Fs') (AEnv.wr (impOne own k c).2 σ).o ι' (impOne own k c).1 v := by
  cases c with
  | v p => simp only [CR] at hR; exact impCell_came h hg hk (by omega) hR hsub hnd
  | agg ps =>
    simp only [CR] at hR
    obtain ⟨vs, rfl, hR⟩ := hR
    simp only [small1, decide_eq_true_eq] at hs
    obtain ⟨ι', Fs', c1, r1⟩ := impCells_came (own := own) h hg hk (by omega) hR hsub hnd
    exact ⟨ι', Fs', c1, by simp only [impOne, AR]; exact ⟨vs, rfl, r1⟩⟩
  | any =>
    simp only [CR] at hR
    subst hR
    exact ⟨ι, Fs, ⟨h, by simp, Later.refl h⟩, by simp only [impOne, AR]⟩
  | _ => simp [small1] at hs

theorem impTup_oe {own : Bool} : ∀ {xs : List CV} {k : Nat}, xs.all small1 = true → ∀ x ob, (x, ob) ∈ (impTup own k xs).2 → (k ≤ x ∧ x < k + 20 * xs.length) ∧ ∃ e s n cs, ob = .arr 0 e s n cs
  | [], _, _, _, _, h => by simp [impTup] at h
  | c :: xs, k, hs, x, ob, h => by
    simp only [List.all_cons, Bool.and_eq_true] at hs
    simp only [impTup, List.mem_append] at h
    rcases h with h | h
    · obtain ⟨h1, h2⟩ := impOne_oe hs.1 x ob h; exact ⟨by simp; omega, h2⟩
    · obtain ⟨h1, h2⟩ := impTup_oe hs.2 x ob h; exact ⟨by simp; omega, h2⟩

theorem impTup_came {own : Bool} {g : Nat} : ∀ {xs : List CV} {vs : List Value} {Fp : List Nat} {k : Nat} {σ : AEnv} {ι : Nat → Value} {Fs : Nat → List Nat}, Sim C σ a w ι Fs → σ.o g = .none → (∀ x ob, (x, ob) ∈ (impTup own k xs).2 → σ.o x = .none) → k + 20 * xs.length ≤ g → xs.all small1 = true →
    CRs w (Un C w Fs) xs vs Fp → (∀ b, b ∈ Fp → b ∈ Fs g) → Fp.Nodup →
    ∃ ι' Fs', Came C σ a w ι Fs g Fp (impTup own k xs).2 ι' Fs' ∧ ARs w (Un C w Fs') (AEnv.wr (impTup own k xs).2 σ).o ι' (impTup own k xs).1 vs
  | [], [], Fp, k, σ, ι, Fs, h, hg, hk, hkg, hs, hR, hsub, hnd => by
    simp only [CRs] at hR
    subst hR
    exact ⟨ι, Fs, ⟨h, by simp, Later.refl h⟩, by simp [impTup, ARs]⟩
  | c :: xs, v :: vs, Fp, k, σ, ι, Fs, h, hg, hk, hkg, hs, hR, hsub, hnd => by
    simp only [List.length_cons] at hkg
    simp only [List.all_cons, Bool.and_eq_true] at hs
    simp only [CRs] at hR
    obtain ⟨F1, F2, h1, h2, rfl⟩ := hR
    rw [List.nodup_append] at hnd
    obtain ⟨ι1, Fs1, c1, r1⟩ := impTup_came (own := own) (k := k + 20) h hg (fun x ob hm => hk x ob (by simp only [impTup]; exact List.mem_append_right _ hm)) (by omega) hs.2 h2 (fun b hb => hsub b (by simp [hb])) hnd.2.1
    have hσ1g : (AEnv.wr (impTup own (k + 20) xs).2 σ).o g = .none := by
      rw [wr_o_other (fun x ob hm e => ?_)]
      · exact hg
      · subst e
        have := (impTup_oe hs.2 _ _ hm).1
        omega
    have hσ1k : ∀ x ob, (x, ob) ∈ (impOne own k c).2 → (AEnv.wr (impTup own (k + 20) xs).2 σ).o x = .none := fun x ob hm => by
      rw [wr_o_other (fun y ob' hm' e => ?_)]
      · exact hk x ob (by simp only [impTup]; exact List.mem_append_left _ hm)
      · subst e
        have h1 := (impTup_oe hs.2 _ _ hm').1
        have h2 := (impOne_oe hs.1 _ _ hm).1
        omega
    have hCR : CR w (Un C w Fs1) c v F1 := by
      cases c with
      | v p => simp only [CR] at h1 ⊢; exact R_mono (fun j hj => c1.un hj) (fun _ _ => rfl) p v F1 h1 (fun _ _ => rfl)
      | agg ps => simp only [CR] at h1 ⊢; obtain ⟨us, e, hr⟩ := h1; exact ⟨us, e, Rs_mono (fun j hj => c1.un hj) (fun _ _ => rfl) ps _ F1 hr (fun _ _ => rfl)⟩
      | any => simp only [CR] at h1 ⊢; exact h1
      | _ => simp [small1] at hs
    obtain ⟨ι2, Fs2, c2, r2⟩ := impOne_came (own := own) c1.sim hσ1g hσ1k (by omega) hs.1 hCR
      (fun b hb => (c1.ghost b).2 ⟨hsub b (by simp [hb]), fun hb2 => hnd.2.2 b hb b hb2 rfl⟩) hnd.1
    refine ⟨ι2, Fs2, ⟨?_, fun b => ?_, ?_⟩, ?_⟩
    · simp only [impTup]; rw [wr_append]; exact c2.sim
    · rw [c2.ghost, c1.ghost]
      simp only [List.mem_append, not_or]
      constructor
      · rintro ⟨⟨x1, x2⟩, x3⟩; exact ⟨x1, x3, x2⟩
      · rintro ⟨x1, x3, x2⟩; exact ⟨⟨x1, x2⟩, x3⟩
    · simp only [impTup]; rw [wr_append]
      exact c1.later.trans c2.later (wr_arr_dead hσ1k)
    · simp only [impTup, ARs]; rw [wr_append]
      exact ⟨r2, ARs_later c2.later _ _ r1⟩
  | [], _ :: _, _, _, _, _, _, _, _, _, _, _, h, _, _ => by simp only [CRs] at h
  | _ :: _, [], _, _, _, _, _, _, _, _, _, _, h, _, _ => by simp only [CRs] at h

def small : CV → Bool
  | .tup xs => decide (xs.length ≤ 3) && xs.all small1
  | x => small1 x

theorem imp_came {own : Bool} {k : Nat} {c : CV} {v : Value} {Fp : List Nat} (h : Sim C σ a w ι Fs) (hg : σ.o (k + 63) = .none) (hk : ∀ x ob, (x, ob) ∈ (imp own k c).2 → σ.o x = .none) (hs : small c = true)
    (hR : CR w (Un C w Fs) c v Fp) (hsub : ∀ b, b ∈ Fp → b ∈ Fs (k + 63)) (hnd : Fp.Nodup) :
    ∃ ι' Fs', Came C σ a w ι Fs (k + 63) Fp (imp own k c).2 ι' Fs' ∧ AR w (Un C w Fs') (AEnv.wr (imp own k c).2 σ).o ι' (imp own k c).1 v := by
  cases c with
  | tup xs =>
    simp only [CR] at hR
    obtain ⟨vs, rfl, hR⟩ := hR
    simp only [small, Bool.and_eq_true, decide_eq_true_eq] at hs
    obtain ⟨ι', Fs', c1, r1⟩ := impTup_came (own := own) h hg hk (by omega) hs.2 hR hsub hnd
    exact ⟨ι', Fs', c1, by simp only [imp, AR]; exact ⟨vs, rfl, r1⟩⟩
  | ptr ps => simp [small, small1] at hs
  | pc ps => simp [small, small1] at hs
  | fn f ps => simp [small, small1] at hs
  | v p => exact impOne_came h hg hk (by omega) hs hR hsub hnd
  | agg ps => exact impOne_came h hg hk (by omega) hs hR hsub hnd
  | any => exact impOne_came h hg hk (by omega) hs hR hsub hnd

end
end Am
