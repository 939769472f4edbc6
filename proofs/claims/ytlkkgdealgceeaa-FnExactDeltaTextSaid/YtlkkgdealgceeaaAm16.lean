/- A call by its contract; one operation. No condition. -/
import Derived.Test.YtlkkgdealgceeaaAm15c
namespace Am
open Go
set_option linter.unusedSimpArgs false
set_option linter.unusedVariables false
set_option linter.unnecessarySimpa false

/-- All the guards that operands hang on hold. -/
def sides (ρ : Operand → AV) : List Operand → Prop
  | [] => True
  | x :: xs => (ρ x).ug.1 ∧ sides ρ xs

def tokOk (us : Nat → Value) : List LM → List CV → Prop
  | .box toks :: _, .ptr ps :: _ => ∀ j, j ∈ toks → ps[j]? = some (.tk (us j))
  | _, _ => True

/-- Room for the names of a box's cells beside those of a result. -/
def small2 (b2 : List (Nat × AObj)) : CV → Bool
  | .tup xs => b2.isEmpty || decide (xs.length ≤ 2)
  | _ => true

section
variable {P : Program} {T : Ty} {C : Ctx} {σ : AEnv} {a : Act} {w w' : World} {ι : Nat → Value} {Fs : Nat → List Nat} {τ : Nat → AObj} {H : Nat → Bool}

mutual
theorem CR_U {U U' : Nat → Prop} (hU : ∀ k, U k → U' k) : ∀ (c : CV) (v : Value) (F : List Nat), CR w U c v F → CR w U' c v F
  | .any, v, F, h => by simpa only [CR] using h
  | .v p, v, F, h => by simp only [CR] at h ⊢; exact R_mono hU (fun _ _ => rfl) p v F h (fun _ _ => rfl)
  | .agg ps, v, F, h => by simp only [CR] at h ⊢; obtain ⟨us, e, hr⟩ := h; exact ⟨us, e, Rs_mono hU (fun _ _ => rfl) ps _ F hr (fun _ _ => rfl)⟩
  | .ptr ps, v, F, h => by
    simp only [CR] at h ⊢
    obtain ⟨b, vals, ty, F', h1, h2, h5, h3, h4⟩ := h
    exact ⟨b, vals, ty, F', h1, h2, h5, Rs_mono hU (fun _ _ => rfl) ps _ F' h3 (fun _ _ => rfl), h4⟩
  | .pc ps, v, F, h => by
    simp only [CR] at h ⊢
    obtain ⟨h0, b, o0, xs, h1, h2, h3, h4⟩ := h
    exact ⟨h0, b, o0, xs, h1, hU _ h2, h3, Rs_mono hU (fun _ _ => rfl) ps _ _ h4 (fun _ _ => rfl)⟩
  | .fn f xs, v, F, h => by simp only [CR] at h ⊢; obtain ⟨h0, us, e, hr⟩ := h; exact ⟨h0, us, e, CRs_U hU xs _ _ hr⟩
  | .tup xs, v, F, h => by simp only [CR] at h ⊢; obtain ⟨us, e, hr⟩ := h; exact ⟨us, e, CRs_U hU xs _ F hr⟩
theorem CRs_U {U U' : Nat → Prop} (hU : ∀ k, U k → U' k) : ∀ (cs : List CV) (vs : List Value) (F : List Nat), CRs w U cs vs F → CRs w U' cs vs F
  | [], [], F, h => by simpa only [CRs] using h
  | c :: cs, v :: vs, F, h => by
    simp only [CRs] at h ⊢
    obtain ⟨F1, F2, h1, h2, h3⟩ := h
    exact ⟨F1, F2, CR_U hU c v F1 h1, CRs_U hU cs vs F2 h2, h3⟩
  | [], _ :: _, F, h => by simp only [CRs] at h
  | _ :: _, [], F, h => by simp only [CRs] at h
end

theorem CR_noIm {U U' : Nat → Prop} (c : CV) (v : Value) (F : List Nat) (hs : noImC c) (h : CR w U c v F) : CR w U' c v F := by
  cases c with
  | tup xs => simp only [CR, noImC] at h hs ⊢; obtain ⟨vs, e, hr⟩ := h; exact ⟨vs, e, CRs_noIm hs hr⟩
  | v p => exact CR1_noIm (c := .v p) hs h
  | agg ps => exact CR1_noIm (c := .agg ps) hs h
  | ptr ps => exact CR1_noIm (c := .ptr ps) hs h
  | any => exact CR1_noIm (c := .any) hs h
  | _ => simp [noImC, noImC1] at hs

theorem oneCell_cells {v : Value} (h : v.oneCell' = true) : v.cells = #[v] := by cases v <;> first | rfl | (simp [Value.oneCell'] at h)

theorem anys_ARs {U : Nat → Prop} {O : Nat → AObj} : ∀ {bs : List AV} {vv : List Value}, bs.length = vv.length → ARs w U O ι (bs.map fun _ => .any) vv
  | [], [], _ => by simp [ARs]
  | b :: bs, u :: vv, h => by simp only [List.map_cons, ARs, AR]; exact ⟨trivial, anys_ARs (by simpa using h)⟩
  | [], _ :: _, h => by simp at h
  | _ :: _, [], h => by simp at h

theorem boxCells_R (h : Sim C σ a w ι Fs) (ha : Agr σ.o τ) {us : Nat → Value} {toks : List Nat} : ∀ {cs : List AV} {vs : List Value} {ps : List PV} {l : List Nat} {j : Nat}, ARs w (Un C w Fs) σ.o ι cs vs → (∀ x ∈ vs, x.oneCell' = true) →
    (∀ (i : Nat) v, vs[i]? = some v → us (j + i) = v) → boxCells us toks τ j cs = some (ps, l) →
    Rs w (Un C w Fs) ps vs (l.flatMap Fs) ∧ (∀ g, g ∈ l → σ.o g ≠ .none) ∧ (deadBox toks j cs).map (·.1) = l ∧ ∀ b, b ∈ deadBox toks j cs → b.2 = .dead
  | [], [], ps, l, j, _, _, _, hc => by
    simp [boxCells] at hc
    obtain ⟨rfl, rfl⟩ := hc
    exact ⟨by simp [Rs], by simp, rfl, by simp [deadBox]⟩
  | x :: cs, v :: vs, ps, l, j, hx, h1, hu, hc => by
    simp only [ARs] at hx
    simp only [boxCells] at hc
    split at hc
    · rename_i p l1 ps2 l2 e1 e2
      cases hc
      obtain ⟨r1, r2, r3, r4⟩ := boxCells_R h ha hx.2 (fun y hy => h1 y (by simp [hy])) (fun i y hy => by have := hu (i + 1) y (by simpa using hy); rwa [show j + (i + 1) = j + 1 + i by omega] at this) e2
      cases htk : toks.contains j with
      | true =>
        rw [htk] at e1
        simp at e1
        obtain ⟨rfl, rfl⟩ := e1
        have hv := hu 0 v rfl
        have hone := h1 v (by simp)
        refine ⟨?_, by simpa using r2, by simp only [deadBox, htk, List.nil_append]; exact r3, fun b hb => ?_⟩
        · simp only [Rs, List.nil_append, R]
          exact ⟨[], l2.flatMap Fs, ⟨hv.symm, ⟨hone, oneCell_cells hone⟩, rfl⟩, r1, by simp⟩
        · simp only [deadBox, htk, List.nil_append] at hb; exact r4 b hb
      | false =>
        rw [htk] at e1
        simp at e1
        obtain ⟨s1, s2⟩ := toPV_R h ha hx.1 e1
        refine ⟨by simp only [Rs, List.flatMap_append]; exact ⟨_, _, s1, r1, rfl⟩, fun g hg => ?_, ?_, fun b hb => ?_⟩
        · rcases List.mem_append.1 hg with hg | hg
          · exact s2 g hg
          · exact r2 g hg
        · simp only [deadBox, htk, List.map_append, r3]
          congr 1
          unfold toPV at e1
          split at e1
          · split at e1
            · cases e1; rfl
            · cases e1
          · cases e1; rfl
          · split at e1
            · cases e1; rfl
            · cases e1
          · cases e1
        · simp only [deadBox, htk, List.mem_append] at hb
          rcases hb with hb | hb
          · cases x <;> simp at hb
            rw [hb]
          · exact r4 b hb
    · cases hc
  | [], _ :: _, _, _, _, hx, _, _, _ => by simp only [ARs] at hx
  | _ :: _, [], _, _, _, hx, _, _, _ => by simp only [ARs] at hx

theorem boxNew_oe {toks : List Nat} {k : Nat} : ∀ {xs : List AV} {ps : List PV} {j : Nat} (x : Nat) (ob : AObj), (x, ob) ∈ (boxNew toks k j xs ps).2 → (k + j ≤ x ∧ x < k + j + xs.length) ∧ ∃ e s n cs, ob = .arr 0 e s n cs
  | [], ps, j, x, ob, h => by simp [boxNew] at h
  | y :: xs, [], j, x, ob, h => by simp [boxNew] at h
  | y :: xs, p :: ps, j, x, ob, h => by
    simp only [boxNew] at h
    split at h
    · obtain ⟨h1, h2⟩ := boxNew_oe x ob h; exact ⟨by simp; omega, h2⟩
    · simp only [List.mem_append] at h
      rcases h with h | h
      · obtain ⟨rfl, h2⟩ := impCell_oe x ob h; exact ⟨by simp, h2⟩
      · obtain ⟨h1, h2⟩ := boxNew_oe x ob h; exact ⟨by simp; omega, h2⟩

theorem boxNew_came {toks : List Nat} {g k : Nat} : ∀ {xs : List AV} {ps : List PV} {vs : List Value} {Fp : List Nat} {j : Nat} {σ : AEnv} {ι : Nat → Value} {Fs : Nat → List Nat}, Sim C σ a w ι Fs → σ.o g = .none →
    (∀ x ob, (x, ob) ∈ (boxNew toks k j xs ps).2 → σ.o x = .none) → k + j + xs.length ≤ g → xs.length = ps.length →
    Rs w (Un C w Fs) ps vs Fp → (∀ b, b ∈ Fp → b ∈ Fs g) → Fp.Nodup → (∀ (i : Nat) x v, toks.contains (j + i) = true → xs[i]? = some x → vs[i]? = some v → AR w (Un C w Fs) σ.o ι x v) →
    ∃ ι' Fs', Sim C (AEnv.wr (boxNew toks k j xs ps).2 σ) a w ι' Fs' ∧ Later w w (Un C w Fs) (Un C w Fs') σ.o (AEnv.wr (boxNew toks k j xs ps).2 σ).o ι ι' ∧ ARs w (Un C w Fs') (AEnv.wr (boxNew toks k j xs ps).2 σ).o ι' (boxNew toks k j xs ps).1 vs ∧
      (∀ b, b ∈ Fs' g ↔ b ∈ Fs g ∧ b ∉ Fp) ∨ False
  | [], [], [], Fp, j, σ, ι, Fs, h, hg, hk, hkg, hl, hR, hsub, hnd, htk => by
    simp only [Rs] at hR
    subst hR
    exact ⟨ι, Fs, .inl ⟨h, Later.refl h, by simp [boxNew, ARs], by simp⟩⟩
  | x :: xs, p :: ps, v :: vs, Fp, j, σ, ι, Fs, h, hg, hk, hkg, hl, hR, hsub, hnd, htk => by
    simp only [List.length_cons] at hkg hl
    simp only [Rs] at hR
    obtain ⟨F1, F2, h1, h2, rfl⟩ := hR
    rw [List.nodup_append] at hnd
    have hkr : ∀ y ob, (y, ob) ∈ (boxNew toks k (j + 1) xs ps).2 → σ.o y = .none := fun y ob hm => hk y ob (by
      simp only [boxNew]; split
      · exact hm
      · exact List.mem_append_right _ hm)
    obtain ⟨ι1, Fs1, hc⟩ := boxNew_came (toks := toks) (g := g) (k := k) (j := j + 1) h hg hkr (by omega) (by omega) h2 (fun b hb => hsub b (by simp [hb])) hnd.2.1
      (fun i x' v' ht hx' hv' => htk (i + 1) x' v' (by rw [show j + (i + 1) = j + 1 + i by omega]; exact ht) (by simpa using hx') (by simpa using hv'))
    rcases hc with ⟨c1, l1, r1, g1⟩ | hc
    · cases htok : toks.contains j with
      | true =>
        have hp := htk 0 x v (by simpa using htok) rfl rfl
        simp only [boxNew, htok, ARs]
        have hF1 : ∀ b, b ∈ F1 → b ∈ Fs g := fun b hb => hsub b (by simp [hb])
        obtain ⟨c2, g2, l2⟩ := c1.letgo (g := g) (by rw [wr_o_other (fun y ob hm e => by subst e; have := (boxNew_oe _ _ hm).1; omega)]; exact hg) F1
        refine ⟨_, _, .inl ⟨c2, l1.trans l2 (fun o ho => ho), ⟨AR_later (l1.trans l2 (fun o ho => ho)) _ _ hp, ARs_later l2 _ _ r1⟩, fun b => ?_⟩⟩
        rw [g2, g1]; simp only [List.mem_append, not_or]
        constructor
        · rintro ⟨⟨x1, x2⟩, x3⟩; exact ⟨x1, x3, x2⟩
        · rintro ⟨x1, x3, x2⟩; exact ⟨⟨x1, x2⟩, x3⟩
      | false =>
        simp only [boxNew, htok, ARs]
        have hkp : ∀ y ob, (y, ob) ∈ (impCell true (k + j) p).2 → σ.o y = .none := fun y ob hm => hk y ob (by simp only [boxNew, htok]; exact List.mem_append_left _ hm)
        have hσ1g : (AEnv.wr (boxNew toks k (j + 1) xs ps).2 σ).o g = .none := by
          rw [wr_o_other (fun y ob hm e => by subst e; have := (boxNew_oe _ _ hm).1; omega)]; exact hg
        have hσ1k : ∀ y ob, (y, ob) ∈ (impCell true (k + j) p).2 → (AEnv.wr (boxNew toks k (j + 1) xs ps).2 σ).o y = .none := fun y ob hm => by
          rw [wr_o_other (fun z ob' hm' e => ?_)]
          · exact hkp y ob hm
          · subst e
            have h3 := (boxNew_oe _ _ hm').1
            have h4 := (impCell_oe _ _ hm).1
            omega
        obtain ⟨ι2, Fs2, c2, r2⟩ := impCell_came (own := true) c1 hσ1g hσ1k (by omega) (R_mono (fun z hz => l1.u z hz) (fun _ _ => rfl) p v F1 h1 (fun _ _ => rfl))
          (fun b hb => (g1 b).2 ⟨hsub b (by simp [hb]), fun hb2 => hnd.2.2 b hb b hb2 rfl⟩) hnd.1
        refine ⟨ι2, Fs2, .inl ⟨?_, ?_, ?_, fun b => ?_⟩⟩
        · rw [wr_append]; exact c2.sim
        · rw [wr_append]; exact l1.trans c2.later (wr_arr_dead hσ1k)
        · rw [wr_append]; exact ⟨r2, ARs_later c2.later _ _ r1⟩
        · rw [c2.ghost, g1]; simp only [List.mem_append, not_or]
          constructor
          · rintro ⟨⟨x1, x2⟩, x3⟩; exact ⟨x1, x3, x2⟩
          · rintro ⟨x1, x3, x2⟩; exact ⟨⟨x1, x2⟩, x3⟩
    · exact hc.elim
  | [], _ :: _, _, _, _, _, _, _, _, _, _, _, hl, _, _, _, _ => by simp at hl
  | _ :: _, [], _, _, _, _, _, _, _, _, _, _, hl, _, _, _, _ => by simp at hl
  | [], [], _ :: _, _, _, _, _, _, _, _, _, _, _, h, _, _, _ => by simp only [Rs] at h
  | _ :: _, _ :: _, [], _, _, _, _, _, _, _, _, _, _, h, _, _, _ => by simp only [Rs] at h

theorem argsL_split {us : Nat → Value} {lm : List LM} {avs : List AV} : (∃ toks ms o xs, lm = .box toks :: ms ∧ avs = .box o 0 :: xs) ∨ ((∀ us, argsL us τ lm avs = argsL1 τ lm avs) ∧ ∀ k cs r, argsBack τ k lm avs cs = some r → ∃ b, argsBack1 τ lm avs cs = some b ∧ r = (b, [])) := by
  by_cases hb : ∃ toks ms o xs, lm = .box toks :: ms ∧ avs = .box o 0 :: xs
  · exact .inl hb
  · refine .inr ⟨fun us => ?_, fun k cs r hr => ?_⟩
    · unfold argsL
      split
      · rename_i toks ms o xs
        exact absurd ⟨toks, ms, o, xs, rfl, rfl⟩ hb
      · rfl
    · unfold argsBack at hr
      split at hr
      · rename_i toks ms o xs ps cs'
        exact absurd ⟨toks, ms, o, xs, rfl, rfl⟩ hb
      · cases hr
      · split at hr
        · rename_i b hbk
          cases hr
          exact ⟨b, hbk, rfl⟩
        · cases hr

theorem bkOf_map (L : List Ent) : (bkOf L).map (·.1) = L.map Ent.name := by simp [bkOf]

/-- A call by its contract: its arguments looked at, handed over, or carried along in a box. -/
theorem call_sound (h : Sim C σ a w ι Fs) (ha : Agr σ.o τ) {f d : Nat} {lm : List LM} {avs : List AV} {vals : List Value} (hargs : ARs w (Un C w Fs) σ.o ι avs vals)
    {cargs : (Nat → Value) → List CV} {vw ln : List Nat} (hl : ∀ us, argsL us τ lm avs = some (cargs us, vw, ln)) (hn : ln.Nodup) (hvl : ∀ x, x ∈ vw → x ∉ ln)
    {cres : CV} {outs : (Nat → Value) → List CV} (hc : ∀ us, FnW P f (cargs us) cres (outs us)) {b1 b2 : List (Nat × AObj)} (hb : ∀ us, argsBack τ (64 * d + 40) lm avs (outs us) = some (b1, b2)) (htok : ∀ us, tokOk us lm (outs us))
    (hno : vw ≠ [] → noImC cres ∧ ∀ us, noImCs (outs us)) (hsm : small cres = true) (hsm2 : small2 b2 cres = true) (hgh : σ.o (64 * d + 63) = .none) (hfr : ∀ x ob, (x, ob) ∈ (imp (H d) (64 * d) cres).2 → σ.o x = .none)
    (hfr2 : ∀ x ob, (x, ob) ∈ b2.tail → σ.o x = .none) :
    Calls P f vals.toArray w (fun e w' => ∃ v ι' Fs', e = .returned v ∧ Sim C (AEnv.wr (b2 ++ ((imp (H d) (64 * d) cres).2 ++ b1)) σ) a w' ι' Fs' ∧ AR w' (Un C w' Fs') (AEnv.wr (b2 ++ ((imp (H d) (64 * d) cres).2 ++ b1)) σ).o ι' (imp (H d) (64 * d) cres).1 v) := by
  -- what is common: from what came back to the result
  have finish : ∀ (us : Nat → Value) (w' : World) (v : Value) (Fr Fo F G' : List Nat) (L : List Ent), GrownF w w' F → (∀ k, k ∈ F → ∃ o, o ∈ ln ∧ k ∈ Fs o) → L.map Ent.name = ln → bkOf L = b1 →
      (∀ e, e ∈ L → EntOk C σ w ι Fs F w' (fun k => k < w'.heap.size ∧ (Un C w Fs k ∨ w.heap.size ≤ k ∨ k ∈ F) ∧ k ∉ Fr ++ Fo) e) → (L.flatMap Ent.piece ++ G').Perm Fo → (Fr ++ Fo).Nodup →
      (∀ k, k ∈ Fr ++ Fo → k < w'.heap.size ∧ (w.heap.size ≤ k ∨ k ∈ F)) → CR w' (fun k => k < w'.heap.size ∧ (Un C w Fs k ∨ w.heap.size ≤ k ∨ k ∈ F) ∧ k ∉ Fr ++ Fo) cres v Fr →
      ∃ ι' Fs', Sim C (AEnv.wr ((imp (H d) (64 * d) cres).2 ++ b1) σ) a w' ι' Fs' ∧ Later w w' (Un C w Fs) (Un C w' Fs') σ.o (AEnv.wr ((imp (H d) (64 * d) cres).2 ++ b1) σ).o ι ι' ∧
        AR w' (Un C w' Fs') (AEnv.wr ((imp (H d) (64 * d) cres).2 ++ b1) σ).o ι' (imp (H d) (64 * d) cres).1 v ∧ (∀ k, k ∈ G' → k ∈ Fs' (64 * d + 63)) ∧
        (∀ k, (k < w'.heap.size ∧ (Un C w Fs k ∨ w.heap.size ≤ k ∨ k ∈ F) ∧ k ∉ Fr ++ Fo) → Un C w' Fs' k) ∧ (∀ o, o ∈ ln → (AEnv.wr ((imp (H d) (64 * d) cres).2 ++ b1) σ).o o = (AEnv.wr b1 σ).o o ∧ ((AEnv.wr b1 σ).o o ≠ .dead → ι' o = ι o)) := by
    intro us w' v Fr Fo F G' L hg hF hLn hLb hok hperm hnd hfrsh hres
    have hp2 : (Fr ++ G' ++ L.flatMap Ent.piece).Perm (Fr ++ Fo) := by
      rw [List.append_assoc]
      exact List.Perm.append_left Fr (List.perm_append_comm.trans hperm)
    obtain ⟨Fs1, h1, h2, h3, h4, h5, h6⟩ := h.handed (U' := fun k => k < w'.heap.size ∧ (Un C w Fs k ∨ w.heap.size ≤ k ∨ k ∈ F) ∧ k ∉ Fr ++ Fo) hg (L := L) (G := Fr ++ G') hgh (hLn ▸ hn)
      (fun k hk => by obtain ⟨o, ho, hk'⟩ := hF k hk; rw [← hLn] at ho; obtain ⟨e, he, rfl⟩ := List.mem_map.1 ho; exact ⟨e, he, hk'⟩) hok (hp2.nodup_iff.2 hnd)
      (fun k hk => hfrsh k (hp2.mem_iff.1 hk)) (fun k hk => ⟨hk.1, hk.2.1, fun hm => hk.2.2 (hp2.mem_iff.1 hm)⟩)
    rw [hLb] at h1 h5
    have hnames : ∀ x, x ∉ ln → (AEnv.wr b1 σ).o x = σ.o x := fun x hx => by rw [← hLb]; exact bk_other (by rw [hLn]; exact hx)
    have hthere : ∀ o, o ∈ ln → σ.o o ≠ .none := fun o ho => by rw [← hLn] at ho; obtain ⟨e, he, rfl⟩ := List.mem_map.1 ho; exact (hok e he).there
    have hg1 : (AEnv.wr b1 σ).o (64 * d + 63) = .none := by rw [hnames _ (fun hm => hthere _ hm hgh)]; exact hgh
    have hk1 : ∀ x ob, (x, ob) ∈ (imp (H d) (64 * d) cres).2 → (AEnv.wr b1 σ).o x = .none := fun x ob hx => by rw [hnames _ (fun hm => hthere _ hm (hfr x ob hx))]; exact hfr x ob hx
    obtain ⟨ι2, Fs2, hc2, hr2⟩ := imp_came (own := H d) (k := 64 * d) h1 hg1 hk1 hsm (CR_U h3 _ _ _ hres) (fun b hb => by rw [h2]; exact List.mem_append_left _ hb) (List.nodup_append.1 hnd).1
    have hL := h5.trans hc2.later (wr_arr_dead hk1)
    rw [wr_append]
    refine ⟨ι2, Fs2, hc2.sim, hL, hr2, fun k hk => (hc2.ghost k).2 ⟨by rw [h2]; exact List.mem_append_right _ hk, fun hkF => ?_⟩, fun k hk => hc2.un (h3 k hk), fun o ho => ?_⟩
    · exact (List.nodup_append.1 (hp2.nodup_iff.2 hnd)).1 |> fun hh => (List.nodup_append.1 hh).2.2 k hkF k hk rfl
    · have e1 : (AEnv.wr (imp (H d) (64 * d) cres).2 (AEnv.wr b1 σ)).o o = (AEnv.wr b1 σ).o o := wr_o_other (fun k ob hm e => by subst e; exact hthere _ ho (hfr _ _ hm))
      refine ⟨e1, fun hd => ?_⟩
      have hne : (AEnv.wr b1 σ).o o ≠ .none := by
        rw [← hLn] at ho
        obtain ⟨e, he, rfl⟩ := List.mem_map.1 ho
        rw [← hLb, bk_o (hLn ▸ hn) e he]
        rcases (hok e he).kind with q | ⟨_, _, _, q⟩ | ⟨_, _, _, _, _, _, _, _, _, _, _, q, _⟩ <;> rw [q] <;> simp
      rcases hc2.later.name o with q | q | ⟨_, _, _, _, q⟩ | ⟨_, _, _, _, _, _, _, _, _, _, _, _, q, _⟩ | ⟨_, _, _, _, q⟩
      · exact absurd q hne
      · rw [e1] at q; exact absurd q hd
      · exact q
      · exact q
      · exact q
  rcases argsL_split (τ := τ) (us := fun _ => undef) (lm := lm) (avs := avs) with ⟨toks, ms, o, xs, rfl, rfl⟩ | ⟨hL1, hB1⟩
  · -- a box first
    obtain ⟨v0, vs, rfl⟩ : ∃ v0 vs, vals = v0 :: vs := by cases vals with | nil => simp only [ARs] at hargs | cons v0 vs => exact ⟨v0, vs, rfl⟩
    simp only [ARs] at hargs
    obtain ⟨hx0, hxs⟩ := hargs
    obtain ⟨bcs, hτ⟩ : ∃ bcs, τ o = .box bcs := by
      have := hl (fun _ => undef)
      simp only [argsL] at this
      split at this
      · exact ⟨_, ‹_›⟩
      · cases this
    obtain ⟨ho, k0, hk0, hv0⟩ := agr_box ha hx0 hτ
    obtain ⟨bv, bty, hbh, hbm, hbr, hb1, hFo⟩ := box_mem h ho hk0
    let us : Nat → Value := fun j => bv.toList.getD j undef
    have hl' := hl us
    simp only [argsL, hτ] at hl'
    split at hl'
    · rename_i ps l cs' bs ls e1 e2
      simp only [Option.some.injEq, Prod.mk.injEq] at hl'
      obtain ⟨hca, rfl, hlneq⟩ := hl'
      obtain ⟨q1, q2, q3, q4⟩ := boxCells_R h ha (us := us) (j := 0) hbr hb1 (fun i v hv => by show bv.toList.getD (0 + i) undef = v; rw [Nat.zero_add, List.getD_eq_getElem?_getD, hv]; rfl) e1
      have hln : ln = o :: (l ++ ls) := by rw [← hlneq]; rfl
      rw [hln] at hn
      have hn1 := List.nodup_cons.1 hn
      have hn2 := List.nodup_append.1 hn1.2
      obtain ⟨F2, r1, r2, r3, r4, r5⟩ := argsL1_R h ha hxs e2 hn2.2.1 bs (fun o ho => ho)
      have hlF : ∀ k, k ∈ l.flatMap Fs → ∃ g, g ∈ l ∧ k ∈ Fs g := fun k hk => by obtain ⟨g, g1, g2⟩ := List.mem_flatMap.1 hk; exact ⟨g, g1, g2⟩
      have hFin : ∀ k, k ∈ (k0 :: l.flatMap Fs) ++ F2 → ∃ o, o ∈ ln ∧ k ∈ Fs o := fun k hk => by
        rw [hln]
        rcases List.mem_append.1 hk with hk | hk
        · rcases List.mem_cons.1 hk with rfl | hk
          · exact ⟨o, by simp, by rw [hFo]; simp⟩
          · obtain ⟨g, g1, g2⟩ := hlF k hk; exact ⟨g, by simp [g1], g2⟩
        · obtain ⟨g, g1, g2⟩ := r3 k hk; exact ⟨g, by simp [g1], g2⟩
      have hFnd : ((k0 :: l.flatMap Fs) ++ F2).Nodup := by
        rw [List.nodup_append, List.nodup_cons]
        refine ⟨⟨fun hk => ?_, gone_nodup h hn2.1⟩, r2, fun y hy z hz e => ?_⟩
        · obtain ⟨g, g1, g2⟩ := hlF k0 hk
          exact h.dis o g (fun e => hn1.1 (by rw [e]; simp [g1])) k0 (by rw [hFo]; simp) g2
        · subst e
          obtain ⟨g', g1', g2'⟩ := r3 y hz
          rcases List.mem_cons.1 hy with rfl | hy
          · exact h.dis o g' (fun e => hn1.1 (by rw [e]; simp [g1'])) y (by rw [hFo]; simp) g2'
          · obtain ⟨g, g1, g2⟩ := hlF y hy
            exact h.dis g g' (hn2.2.2 g g1 g' g1') y g2 g2'
      have hcr : CRs w (Vw C w Fs bs) (cargs us) (v0 :: vs) ((k0 :: l.flatMap Fs) ++ F2) := by
        rw [← hca]
        simp only [CRs, CR]
        exact ⟨k0 :: l.flatMap Fs, F2, ⟨k0, bv, bty, l.flatMap Fs, hv0, hbh, hb1, Rs_mono (fun k hk => Vw_un hk) (fun _ _ => rfl) _ _ _ q1 (fun _ _ => rfl), rfl⟩, r1, rfl⟩
      have hVF : ∀ k, Vw C w Fs bs k → k < w.heap.size ∧ k ∉ (k0 :: l.flatMap Fs) ++ F2 := fun k hk => by
        rcases hk with hk | ⟨hk, g, hg, hkg⟩
        · exact ⟨hk.1, fun hm => by obtain ⟨o', _, ho'⟩ := hFin k hm; exact hk.2.2 o' ho'⟩
        · exact ⟨hk, fun hm => by
            obtain ⟨o', ho1, ho'⟩ := hFin k hm
            exact h.dis g o' (fun e => hvl g hg (e ▸ ho1)) k hkg ho'⟩
      refine ((hc us).call w (Vw C w Fs bs) _ _ hcr hFnd hVF (fun k hk => by obtain ⟨o', _, ho'⟩ := hFin k hk; exact (h.own o' k ho').1)).mono ?_
      rintro e w' ⟨v, Fr, Fo, rfl, hg, hres, hout, hnd, hfrsh⟩
      -- what is looked at no longer matters
      have hUU : ∀ k, (k < w'.heap.size ∧ (Vw C w Fs [] k ∨ w.heap.size ≤ k ∨ k ∈ (k0 :: l.flatMap Fs) ++ F2) ∧ k ∉ Fr ++ Fo) → (k < w'.heap.size ∧ (Un C w Fs k ∨ w.heap.size ≤ k ∨ k ∈ (k0 :: l.flatMap Fs) ++ F2) ∧ k ∉ Fr ++ Fo) := fun k hk => by
        refine ⟨hk.1, ?_, hk.2.2⟩
        rcases hk.2.1 with (h1 | ⟨_, g, hg', _⟩) | h1
        · exact .inl h1
        · cases hg'
        · exact .inr h1
      have hres' : CR w' (fun k => k < w'.heap.size ∧ (Un C w Fs k ∨ w.heap.size ≤ k ∨ k ∈ (k0 :: l.flatMap Fs) ++ F2) ∧ k ∉ Fr ++ Fo) cres v Fr := by
        by_cases hbs : bs = []
        · subst hbs; exact CR_U hUU _ _ _ hres
        · exact CR_noIm _ _ _ (hno hbs).1 hres
      have hout' : CRs w' (fun k => k < w'.heap.size ∧ (Un C w Fs k ∨ w.heap.size ≤ k ∨ k ∈ (k0 :: l.flatMap Fs) ++ F2) ∧ k ∉ Fr ++ Fo) (outs us) (v0 :: vs) Fo := by
        by_cases hbs : bs = []
        · subst hbs; exact CRs_U hUU _ _ _ hout
        · exact CRs_noIm ((hno hbs).2 us) hout
      have hbu := hb us
      have htu := htok us
      generalize outs us = ou at hout' hbu htu
      match ou, hout', hbu, htu with
      | .ptr ps' :: oc, hout', hbu, htu =>
        simp only [argsBack, hτ] at hbu
        split at hbu
        · rename_i r er
          split at hbu
          · rename_i hlen
            simp only [Option.some.injEq, Prod.mk.injEq] at hbu
            obtain ⟨hb1', hb2'⟩ := hbu
            simp only [CRs, CR] at hout'
            obtain ⟨Fb, Fo2, ⟨b', bv', bty', F', t1, t2, t3, t4, rfl⟩, hout2, rfl⟩ := hout'
            rw [hv0] at t1
            cases t1
            have hUF : ∀ k, Un C w Fs k → k ∉ (k0 :: l.flatMap Fs) ++ F2 := fun k hk => (hVF k (Vw_un hk)).2
            obtain ⟨L2, G2, s1, s2, s3, s4⟩ := r5 w' (fun k => k < w'.heap.size ∧ (Un C w Fs k ∨ w.heap.size ≤ k ∨ k ∈ (k0 :: l.flatMap Fs) ++ F2) ∧ k ∉ Fr ++ ((k0 :: F') ++ Fo2)) ((k0 :: l.flatMap Fs) ++ F2) oc Fo2 r hg hUF (fun g hg1 k hk hkF => by
              rcases List.mem_append.1 hkF with hkF | hkF
              · rcases List.mem_cons.1 hkF with rfl | hkF
                · exact absurd hk (fun hk => h.dis o g (fun e => hn1.1 (by rw [e]; simp [hg1])) k (by rw [hFo]; simp) hk)
                · obtain ⟨g', g1, g2⟩ := hlF k hkF
                  exact absurd hk (h.dis g' g (hn2.2.2 g' g1 g hg1) k g2)
              · exact hkF) hout2 er
            let Ld : List Ent := (deadBox toks 0 bcs).map fun b => ⟨b.1, .dead, [], [], []⟩
            have hLd1 : bkOf Ld = deadBox toks 0 bcs := by
              have : ∀ l : List (Nat × AObj), (∀ b, b ∈ l → b.2 = .dead) → bkOf (l.map fun b => (⟨b.1, .dead, [], [], []⟩ : Ent)) = l := by
                intro l hl
                induction l with
                | nil => rfl
                | cons b l ih =>
                  obtain ⟨n, ob⟩ := b
                  have := hl (n, ob) (by simp)
                  simp only at this
                  subst this
                  have ih' := ih (fun b hb => hl b (by simp [hb]))
                  simp only [bkOf, List.map_cons] at ih' ⊢
                  rw [ih']
              exact this _ q4
            have hLd2 : Ld.map Ent.name = l := by rw [← q3]; simp [Ld]
            have hLd3 : Ld.flatMap Ent.piece = [] := by simp [Ld, List.flatMap_map]
            let L : List Ent := ⟨o, .box (bcs.map fun _ => .any), [], [k0], [k0]⟩ :: (Ld ++ L2)
            have hLb : bkOf L = b1 := by
              rw [← hb1', ← hLd1, ← s1]; simp [L, bkOf]
            have hLn : L.map Ent.name = ln := by rw [hln]; simp [L, hLd2, s2]
            have hLp : (L.flatMap Ent.piece ++ (F' ++ G2)).Perm ((k0 :: F') ++ Fo2) := by
              simp only [L, List.flatMap_cons, List.flatMap_append, hLd3, List.nil_append, List.cons_append, List.append_assoc]
              refine List.Perm.cons _ ?_
              have : (L2.flatMap Ent.piece ++ (F' ++ G2)).Perm (F' ++ (L2.flatMap Ent.piece ++ G2)) := by
                rw [← List.append_assoc, ← List.append_assoc]
                exact List.Perm.append_right G2 List.perm_append_comm
              exact this.trans (List.Perm.append_left F' s3)
            have hlenb := ARs_length _ _ hbr
            obtain ⟨ι2, Fs2, z1, z2, z3, z4, z5, z6⟩ := finish us w' v Fr ((k0 :: F') ++ Fo2) ((k0 :: l.flatMap Fs) ++ F2) (F' ++ G2) L hg hFin hLn hLb (fun e he => by
                rcases List.mem_cons.1 he with rfl | he
                · refine ⟨by rw [ho]; simp, by simp, by simp, by simp, by simp, .inr (.inl ⟨_, _, ho, rfl⟩), fun U'' O'' _ _ => ?_⟩
                  refine ⟨k0, bv', bty', hk0, t2, ?_, t3, rfl⟩
                  have hl2 := Rs_length _ _ _ t4
                  have : bcs.length = bv'.toList.length := by rw [← hl2]; exact hlen.1.symm
                  exact anys_ARs this
                · rcases List.mem_append.1 he with he | he
                  · obtain ⟨b, hb', rfl⟩ := List.mem_map.1 he
                    refine ⟨q2 b.1 (by rw [← q3]; exact List.mem_map_of_mem hb'), by simp, by simp, by simp, by simp, .inl rfl, fun U'' O'' _ _ => by simp only [ObR]⟩
                  · exact s4 e he) hLp hnd hfrsh hres'
            have hob1 : (AEnv.wr b1 σ).o o = .box (bcs.map fun _ => .any) := by
              rw [← hLb]; exact bk_o (hLn ▸ (hln ▸ hn)) ⟨o, .box (bcs.map fun _ => .any), [], [k0], [k0]⟩ (by simp [L])
            obtain ⟨z7, z8⟩ := z6 o (by rw [hln]; simp)
            rw [hob1] at z7 z8
            have hio := z8 (by simp)
            have hnd2 := (List.nodup_append.1 hnd).2.1
            have hfr2' : ∀ x ob, (x, ob) ∈ (boxNew toks (64 * d + 40) 0 bcs ps').2 → (AEnv.wr ((imp (H d) (64 * d) cres).2 ++ b1) σ).o x = .none := fun x ob hx => by
              have h1 := hfr2 x ob (by rw [← hb2']; exact hx)
              have h2 := (boxNew_oe x ob hx).1
              rw [wr_o_other (fun k ob' hm e => ?_)]
              · exact h1
              · subst e
                rcases List.mem_append.1 hm with hm | hm
                · have hb2ne : b2.isEmpty = false := by rw [← hb2']; rfl
                  have : x < 64 * d + 40 := by
                    cases cres with
                    | tup ys =>
                      simp only [small2, hb2ne, Bool.false_or, decide_eq_true_eq] at hsm2
                      simp only [small, Bool.and_eq_true] at hsm
                      have := (impTup_oe hsm.2 x _ hm).1
                      omega
                    | v p => have := (impOne_oe (c := .v p) (by simpa [small] using hsm) x _ hm).1; omega
                    | agg p => have := (impOne_oe (c := .agg p) (by simpa [small] using hsm) x _ hm).1; omega
                    | _ => simp [imp, impOne] at hm
                  omega
                · rw [← hLb] at hm
                  obtain ⟨en, g1, g2⟩ := List.mem_map.1 hm
                  cases g2
                  have : en.name ∈ L.map Ent.name := List.mem_map_of_mem g1
                  rw [hLn, hln] at this
                  rcases List.mem_cons.1 this with e' | this
                  · rw [e'] at h1; rw [ho] at h1; cases h1
                  · rcases List.mem_append.1 this with this | this
                    · exact q2 _ this h1
                    · exact r4 _ this h1
            have hgz : (AEnv.wr ((imp (H d) (64 * d) cres).2 ++ b1) σ).o (64 * d + 63) = .none := by
              rw [wr_o_other (fun k ob' hm e => ?_)]
              · exact hgh
              · subst e
                rcases List.mem_append.1 hm with hm | hm
                · cases cres with
                  | tup ys =>
                    simp only [small, Bool.and_eq_true, decide_eq_true_eq] at hsm
                    have := (impTup_oe hsm.2 _ _ hm).1
                    omega
                  | v p => have := (impOne_oe (c := .v p) (by simpa [small] using hsm) _ _ hm).1; omega
                  | agg p => have := (impOne_oe (c := .agg p) (by simpa [small] using hsm) _ _ hm).1; omega
                  | _ => simp [imp, impOne] at hm
                · rw [← hLb] at hm
                  obtain ⟨en, g1, g2⟩ := List.mem_map.1 hm
                  have g3 : en.name = 64 * d + 63 := congrArg Prod.fst g2
                  have : en.name ∈ L.map Ent.name := List.mem_map_of_mem g1
                  rw [hLn, hln, g3] at this
                  rcases List.mem_cons.1 this with e' | this
                  · rw [e', ho] at hgh; cases hgh
                  · rcases List.mem_append.1 this with this | this
                    · exact q2 _ this hgh
                    · exact r4 _ this hgh
            have hFsub : ∀ y, y ∈ F' → y ∈ Fs2 (64 * d + 63) := fun y hy => z4 y (List.mem_append_left _ hy)
            obtain ⟨ι3, Fs3, hz⟩ := boxNew_came (toks := toks) (g := 64 * d + 63) (k := 64 * d + 40) (j := 0) (xs := bcs) z1 hgz hfr2' (by omega) hlen.1.symm (Rs_mono z5 (fun _ _ => rfl) _ _ _ t4 (fun _ _ => rfl)) hFsub
              ((List.nodup_cons.1 (List.nodup_append.1 hnd2).1).2) (fun i x u ht hx hu => by
                rw [Nat.zero_add] at ht
                have htk := htu i (by simpa using ht)
                obtain ⟨u', _, g1, g3, _⟩ := Rs_get t4 htk
                rw [hu] at g1
                cases g1
                simp only [R] at g3
                obtain ⟨u2, g4, g5⟩ := ARs_get hbr hx
                have : us i = u2 := by show bv.toList.getD i undef = u2; rw [List.getD_eq_getElem?_getD, g4]; rfl
                rw [g3.1, this]
                exact AR_later z2 _ _ g5)
            rcases hz with ⟨y1, y2, y3, _⟩ | hz
            · have hob3 : (AEnv.wr (boxNew toks (64 * d + 40) 0 bcs ps').2 (AEnv.wr ((imp (H d) (64 * d) cres).2 ++ b1) σ)).o o = .box (bcs.map fun _ => .any) := by
                rw [wr_o_other (fun k ob' hm e => by subst e; have := hfr2' _ _ hm; rw [z7] at this; cases this), z7]
              have hio3 : ι3 o = .pointer (some ⟨k0, 0, none⟩) := by
                rcases y2.name o with q | q | ⟨_, _, _, _, q⟩ | ⟨_, _, _, _, _, _, _, _, _, _, q, _⟩ | ⟨_, _, q, _⟩
                · rw [z7] at q; cases q
                · rw [hob3] at q; cases q
                · rw [q, hio, hk0]
                · rw [z7] at q; cases q
                · rw [z7] at q; cases q
              have hfin := y1.refine hob3 (cs' := (boxNew toks (64 * d + 40) 0 bcs ps').1) (fun k vals ty e1 e2 => by
                rw [hio3] at e1
                cases e1
                rw [t2] at e2
                cases e2
                exact y3)
              have eE : AEnv.wr (b2 ++ ((imp (H d) (64 * d) cres).2 ++ b1)) σ = (AEnv.wr (boxNew toks (64 * d + 40) 0 bcs ps').2 (AEnv.wr ((imp (H d) (64 * d) cres).2 ++ b1) σ)).upd o (.box (boxNew toks (64 * d + 40) 0 bcs ps').1) := by
                rw [← hb2']
                simp only [List.cons_append, AEnv.wr]
                rw [wr_append]
              rw [eE]
              refine ⟨v, ι3, Fs3, rfl, hfin, ?_⟩
              have a1 := AR_later y2 _ _ z3
              -- the box's cells are told; nothing else
              refine AR_later (O' := ((AEnv.wr (boxNew toks (64 * d + 40) 0 bcs ps').2 (AEnv.wr ((imp (H d) (64 * d) cres).2 ++ b1) σ)).upd o (.box (boxNew toks (64 * d + 40) 0 bcs ps').1)).o) ?_ _ _ a1
              refine ⟨fun _ hk => hk, fun _ _ => rfl, fun o' => ?_⟩
              by_cases e : o' = o
              · subst e; exact .inr (.inr (.inl ⟨_, (boxNew toks (64 * d + 40) 0 bcs ps').1, hob3, by simp [AEnv.upd], rfl⟩))
              · have := (Later.refl y1).name o'
                have e2 : ((AEnv.wr (boxNew toks (64 * d + 40) 0 bcs ps').2 (AEnv.wr ((imp (H d) (64 * d) cres).2 ++ b1) σ)).upd o (.box (boxNew toks (64 * d + 40) 0 bcs ps').1)).o o' = (AEnv.wr (boxNew toks (64 * d + 40) 0 bcs ps').2 (AEnv.wr ((imp (H d) (64 * d) cres).2 ++ b1) σ)).o o' := by simp [AEnv.upd, e]
                rw [e2]; exact this
            · exact hz.elim
          · cases hbu
        · cases hbu
      | [], hout', _, _ => simp only [CRs] at hout'
      | .any :: oc, _, hbu, _ => simp [argsBack] at hbu
      | .v p :: oc, _, hbu, _ => simp [argsBack] at hbu
      | .agg p :: oc, _, hbu, _ => simp [argsBack] at hbu
      | .pc p :: oc, _, hbu, _ => simp [argsBack] at hbu
      | .fn f p :: oc, _, hbu, _ => simp [argsBack] at hbu
      | .tup p :: oc, _, hbu, _ => simp [argsBack] at hbu
    · cases hl'
  · -- no box
    let us : Nat → Value := fun _ => undef
    have hl' := hl us
    rw [hL1] at hl'
    obtain ⟨F, r1, r2, r3, r4, r5⟩ := argsL1_R h ha hargs hl' hn vw (fun o ho => ho)
    obtain ⟨bb, hbb, hbe⟩ := hB1 _ _ _ (hb us)
    cases hbe
    have hVF : ∀ k, Vw C w Fs vw k → k < w.heap.size ∧ k ∉ F := fun k hk => by
      rcases hk with hk | ⟨hk, g, hg, hkg⟩
      · exact ⟨hk.1, fun hm => by obtain ⟨o', _, ho'⟩ := r3 k hm; exact hk.2.2 o' ho'⟩
      · exact ⟨hk, fun hm => by
          obtain ⟨o', ho1, ho'⟩ := r3 k hm
          exact h.dis g o' (fun e => hvl g hg (e ▸ ho1)) k hkg ho'⟩
    refine ((hc us).call w (Vw C w Fs vw) _ _ r1 r2 hVF (fun k hk => by obtain ⟨o', _, ho'⟩ := r3 k hk; exact (h.own o' k ho').1)).mono ?_
    rintro e w' ⟨v, Fr, Fo, rfl, hg, hres, hout, hnd, hfrsh⟩
    have hUU : ∀ k, (k < w'.heap.size ∧ (Vw C w Fs [] k ∨ w.heap.size ≤ k ∨ k ∈ F) ∧ k ∉ Fr ++ Fo) → (k < w'.heap.size ∧ (Un C w Fs k ∨ w.heap.size ≤ k ∨ k ∈ F) ∧ k ∉ Fr ++ Fo) := fun k hk => by
      refine ⟨hk.1, ?_, hk.2.2⟩
      rcases hk.2.1 with (h1 | ⟨_, g, hg', _⟩) | h1
      · exact .inl h1
      · cases hg'
      · exact .inr h1
    have hres' : CR w' (fun k => k < w'.heap.size ∧ (Un C w Fs k ∨ w.heap.size ≤ k ∨ k ∈ F) ∧ k ∉ Fr ++ Fo) cres v Fr := by
      by_cases hbs : vw = []
      · subst hbs; exact CR_U hUU _ _ _ hres
      · exact CR_noIm _ _ _ (hno hbs).1 hres
    have hout' : CRs w' (fun k => k < w'.heap.size ∧ (Un C w Fs k ∨ w.heap.size ≤ k ∨ k ∈ F) ∧ k ∉ Fr ++ Fo) (outs us) vals Fo := by
      by_cases hbs : vw = []
      · subst hbs; exact CRs_U hUU _ _ _ hout
      · exact CRs_noIm ((hno hbs).2 us) hout
    have hUF : ∀ k, Un C w Fs k → k ∉ F := fun k hk => (hVF k (Vw_un hk)).2
    obtain ⟨L, G, s1, s2, s3, s4⟩ := r5 w' _ F _ Fo _ hg hUF (fun g hg1 k hk hkF => hkF) hout' hbb
    obtain ⟨ι2, Fs2, z1, z2, z3, _⟩ := finish us w' v Fr Fo F G L hg r3 s2 s1 s4 s3 hnd hfrsh hres'
    exact ⟨v, ι2, Fs2, rfl, by simpa using z1, by simpa using z3⟩

end

/-- What a walk is told: whose results' arrays are taken as our own (by slot); which guarded operations are kept under their guards rather than told apart (by slot); how a function is handed its arguments (by its number); which loads take out of an array what is owned there (by slot); which functions' calls may be kept under guards. -/
structure Hints where
  own : Nat → Bool := fun _ => true
  merge : Nat → Bool := fun _ => true
  lend : Nat → List LM := fun _ => []
  mv : Nat → Bool := fun _ => false
  mergeF : Nat → Bool := fun _ => false

/-- A call of a function, by its contract. -/
structure CallR (P : Program) (H : Hints) (O : Nat → AObj) (d f : Nat) (sd : Prop) (avs : List AV) (cres : CV) (b1 b2 : List (Nat × AObj)) : Prop where
  sd : sd
  ar : ∃ (cargs : (Nat → Value) → List CV) (vw ln : List Nat) (outs : (Nat → Value) → List CV), (∀ us, argsL us O (H.lend f) avs = some (cargs us, vw, ln)) ∧ ln.Nodup ∧ (∀ x, x ∈ vw → x ∉ ln) ∧ (∀ us, FnW P f (cargs us) cres (outs us)) ∧
    (∀ us, argsBack O (64 * d + 40) (H.lend f) avs (outs us) = some (b1, b2)) ∧ (∀ us, tokOk us (H.lend f) (outs us)) ∧ (vw ≠ [] → noImC cres ∧ ∀ us, noImCs (outs us))
  sm : small cres = true
  sm2 : small2 b2 cres = true
  gh : O (64 * d + 63) = .none
  fr : freeOE O (imp (H.own d) (64 * d) cres).2
  fr2 : freeOE O b2.tail

def calleeOf (ρ : Operand → AV) (x : Operand) : Option (Prop × Nat × List AV) := match (ρ x).ug with
  | (s, .fn f cap) => some (s, f, cap)
  | _ => none

inductive StepR (P : Program) (T : Ty) (H : Hints) (ρ : Operand → AV) (O : Nat → AObj) (o : Oper) : AV → List (Nat × AObj) → Prop
  | op {e : Eff} (h : astep T (H.mv (o.dst.getD 0)) ρ O o = some e) (hs : e.side) : StepR P T H ρ O o e.val e.oe
  | call {x : Operand} {s : Prop} {f d : Nat} {cap : List AV} {args : Array Operand} {ts : Array TypeId} {cres : CV} {b1 b2 : List (Nat × AObj)} (ho : o.op = .call ⟨.value x, args, ts⟩) (hx : calleeOf ρ x = some (s, f, cap)) (hd : o.dst = some d)
      (h : CallR P H O d f (s ∧ sides ρ args.toList) ((args.toList.map fun x => (ρ x).ug.2) ++ cap) cres b1 b2) :
      StepR P T H ρ O o (imp (H.own d) (64 * d) cres).1 (b2 ++ ((imp (H.own d) (64 * d) cres).2 ++ b1))

section
variable {P : Program} {T : Ty} {C : Ctx} {σ : AEnv} {a : Act} {w w' : World} {ι : Nat → Value} {Fs : Nat → List Nat} {τ : Nat → AObj} {H : Hints}

/-- What stands behind a step: the slots and the world are as the abstract machine has them. -/
def Post (C : Ctx) (σ : AEnv) (a : Act) (w : World) : Prop := ∃ ι Fs, Sim C σ a w ι Fs

theorem evs_ARs (h : Sim C σ a w ι Fs) : ∀ {xs : List Operand}, sides (ev σ) xs → ARs w (Un C w Fs) σ.o ι (xs.map fun x => (ev σ x).ug.2) (xs.map a.eval)
  | [], _ => by simp [ARs]
  | x :: xs, hs => by
    simp only [sides] at hs
    simp only [List.map_cons, ARs]
    exact ⟨ev_ug h x (s := (ev σ x).ug.1) rfl hs.1, evs_ARs h hs.2⟩

/-- One operation does in the machine what it does here. -/
theorem stepR_sound (hT : TyOK P T) (h : Sim C σ a w ι Fs) (ha : Agr σ.o τ) {o : Oper} {av : AV} {oe : List (Nat × AObj)} (he : StepR P T H (ev σ) τ o av oe)
    (hf : ∀ k ob, (k, ob) ∈ oe → τ k = .none → σ.o k = .none) (hg : ∀ d, o.dst = some d → τ (64 * d + 63) = .none → σ.o (64 * d + 63) = .none) (hN : ∀ d, o.dst = some d → C.N.1 ≤ d ∧ d < C.N.2)
    {K : Act → World → Prop} {Q : Exit → Act → World → Prop} (hK : ∀ a' w', Post C ((AEnv.wr oe σ).set o.dst av) a' w' → K a' w') : o.wp P a w K Q := by
  cases he with
  | op h1 hs =>
    rename_i e
    obtain ⟨r, w', ι', Fs', v, hr, hrv, hS, hA⟩ := step_sound hT h ha h1 hs hf
    unfold Oper.wp
    rw [hr]
    rcases hrv with rfl | ⟨rfl, rfl⟩
    · simp only [Oper.upon]; exact hK _ _ ⟨ι', Fs', hS.put o.dst hN hA⟩
    · simp only [Oper.upon]; exact hK _ _ ⟨ι', Fs', hS.put o.dst hN hA⟩
  | @call x s f d cap args ts cres b1 b2 ho hx hd hc =>
    obtain ⟨cargs, vw, ln, outs, h1, h2, h3, h4, h5, h6, h7⟩ := hc.ar
    unfold calleeOf at hx
    split at hx
    · rename_i s' f' cap' hux
      cases hx
      have hv := ev_ug h x hux hc.sd.1
      simp only [AR] at hv
      obtain ⟨xs, hv, hcap⟩ := hv
      have hargs := ARs_append (evs_ARs h hc.sd.2) hcap
      have hcall := call_sound (H := H.own) h ha hargs h1 h2 h3 h4 h5 h6 h7 hc.sm hc.sm2 (hg d hd hc.gh) (fun y ob hm => hf y ob (by simp [hm]) (freeOE_mem hc.fr y ob hm))
        (fun y ob hm => hf y ob (List.mem_append_left _ (List.mem_of_mem_tail hm)) (freeOE_mem hc.fr2 y ob hm))
      have hrun : (execOp a.eval o).run P w = .ok (.enter f (args.map a.eval ++ xs)) w := by
        obtain ⟨fn, hfn1, hfn2, hfn3⟩ := (h4 (fun _ => undef)).fin.ex
        obtain ⟨dst, op, type, pos, after, guard⟩ := o
        simp only at ho
        subst ho
        have hfn2' : ¬ (fn.body = none) := fun e => by simp [e] at hfn2
        have hfn3' : ¬ (fn.name = "runtime.NumGoroutine") := by simpa using hfn3
        simp [execOp, resolve, hv, Deferred.ofValue, invoke, callFunc, hfn1, hfn2', hfn3']
      unfold Oper.wp
      rw [hrun]
      simp only [Oper.upon]
      have e : (args.toList.map a.eval ++ xs.toList).toArray = args.map a.eval ++ xs := by apply Array.ext'; simp
      rw [e] at hcall
      refine hcall.mono ?_
      rintro e w' ⟨v, ι', Fs', rfl, hS, hA⟩
      exact hK _ _ ⟨ι', Fs', hS.put o.dst hN hA⟩
    · cases hx

end
end Am
