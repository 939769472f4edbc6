/- A function's contract, from its code. No condition. -/
import Derived.Test.YtbnpeacndfkcnaaAm20
namespace Am
open Go
set_option linter.unusedSimpArgs false
set_option linter.unusedVariables false
set_option linter.unnecessarySimpa false

section
variable {P : Program} {T : Ty} {C : Ctx} {σ : AEnv} {a : Act} {w w' : World} {ι : Nat → Value} {Fs : Nat → List Nat}

theorem loadVar_of_loadAt {t : Nat} {b off : Nat} {r : Result Value} (h : (Instr.loadAt t (.pointer (some ⟨b, off, none⟩))).run P w = r) : (loadVar t ⟨b, off, none⟩).run P w = r := by
  simpa [Instr.loadAt, Instr.sureAddr] using h

/-- One result as it is read. -/
def readRes (tmps : Array Value) : ResultVar → Sem Value
  | .tmp t => pure (tmps.getD t undef)
  | .cell a t => do loadVar t (← asAddr (tmps.getD a undef))

theorem results_eq (fn : Func) (tmps : Array Value) : results fn tmps = (do let vs ← fn.results.mapM (readRes tmps); pure (if h : vs.size = 1 then vs[0] else .tuple vs)) := by
  unfold results
  congr 1

theorem resAV_run (hT : TyOK P T) (h : Sim C σ a w ι Fs) {r : ResultVar} {av : AV} (hr : resAV T σ r = some av) : ∃ v, (readRes a.tmps r).run P w = .ok v w ∧ AR w (Un C w Fs) σ.o ι av v := by
  cases r with
  | tmp t =>
    simp only [resAV] at hr
    cases hr
    exact ⟨_, by simp [readRes], h.tm t⟩
  | cell at' t =>
    simp only [resAV] at hr
    split at hr
    · rename_i i b off hl ht
      have hi := hT.m hl
      split at hr
      · rename_i cs ho
        have hta := h.tm at'
        rw [ht] at hta
        simp only [AR, ho] at hta
        obtain ⟨k, hkb, hv⟩ := hta
        obtain ⟨vals, ty, hh, hm, hrr, _, _⟩ := box_mem h ho hkb
        have hread : ∀ {u : Value}, (Instr.loadAt t (.pointer (some ⟨k, off, none⟩))).run P w = .ok u w → (readRes a.tmps (.cell at' t)).run P w = .ok u w := by
          intro u hu
          have := loadVar_of_loadAt hu
          simp only [readRes, hv]
          simp [asAddr, this]
        split at hr
        · rename_i fs hk
          split at hr
          · rename_i hle
            cases hr
            have hlen := ARs_length _ _ hrr
            have hm' := memAt_drop hm off
            rw [Nat.zero_add] at hm'
            refine ⟨.agg ((vals.toList.drop off).take i.size).toArray, hread (loadAt_struct hi hk hm' (by simp only [List.length_drop]; omega)), ?_⟩
            simp only [AR]; exact ⟨_, rfl, by simpa using ARs_take (ARs_drop hrr off) i.size⟩
          · cases hr
        · cases hr
        · rename_i hk1 hk2
          obtain ⟨u, hu, hur⟩ := ARs_get hrr hr
          have hc := hm off u hu
          rw [Nat.zero_add] at hc
          exact ⟨u, hread (loadAt_cell hi (fun hk => hk2 hk) (fun fs hk => hk1 fs hk) hc), hur⟩
      · cases hr
    · cases hr

theorem resAVs_run (hT : TyOK P T) (h : Sim C σ a w ι Fs) : ∀ {rs : List ResultVar} {avs : List AV}, allSome (rs.map (resAV T σ)) = some avs → ∃ vs : List Value, (rs.mapM (readRes a.tmps)).run P w = .ok vs w ∧ ARs w (Un C w Fs) σ.o ι avs vs
  | [], avs, hr => by
    simp [allSome] at hr
    subst hr
    exact ⟨[], by simp, by simp [ARs]⟩
  | r :: rs, avs, hr => by
    simp only [List.map_cons] at hr
    cases h1 : resAV T σ r with
    | none => rw [h1] at hr; simp [allSome] at hr
    | some av =>
      rw [h1] at hr
      simp only [allSome] at hr
      split at hr
      · rename_i l hl
        cases hr
        obtain ⟨v, hv, hav⟩ := resAV_run hT h h1
        obtain ⟨vs, hvs, hars⟩ := resAVs_run hT h hl
        exact ⟨v :: vs, by simp [List.mapM_cons, hv, hvs], by simp only [ARs]; exact ⟨hav, hars⟩⟩
      · cases hr

theorem avCV_R (h : Sim C σ a w ι Fs) {x : AV} {v : Value} {c : CV} {gone : List Nat} (hx : AR w (Un C w Fs) σ.o ι x v) (hp : avCV σ.o x = some (c, gone)) :
    CR w (Un C w Fs) c v (gone.flatMap Fs) ∧ (∀ g, g ∈ gone → σ.o g ≠ .none) ∧ small1 c = small1 c := by
  unfold avCV at hp
  split at hp
  · split at hp
    · rename_i cs _ ps l h1
      cases hp
      simp only [AR] at hx
      obtain ⟨vs, rfl, hs⟩ := hx
      obtain ⟨h2, h3⟩ := toPVs_R h (Agr.refl _) hs h1
      exact ⟨by simp only [CR]; exact ⟨vs, rfl, h2⟩, h3, rfl⟩
    · cases hp
  · split at hp
    · rename_i p l h1
      cases hp
      obtain ⟨h2, h3⟩ := toPV_R h (Agr.refl _) hx h1
      exact ⟨by simp only [CR]; exact h2, h3, rfl⟩
    · cases hp

theorem avCVs_R (h : Sim C σ a w ι Fs) : ∀ {xs : List AV} {vs : List Value} {cs : List CV} {gone : List Nat}, ARs w (Un C w Fs) σ.o ι xs vs → avCVs σ.o xs = some (cs, gone) →
    CRs w (Un C w Fs) cs vs (gone.flatMap Fs) ∧ ∀ g, g ∈ gone → σ.o g ≠ .none
  | [], [], cs, gone, _, hp => by simp [avCVs] at hp; obtain ⟨rfl, rfl⟩ := hp; exact ⟨by simp [CRs], by simp⟩
  | x :: xs, v :: vs, cs, gone, hx, hp => by
    simp only [ARs] at hx
    simp only [avCVs] at hp
    split at hp
    · rename_i c l cs' ls h1 h2
      cases hp
      obtain ⟨g1, g2, _⟩ := avCV_R h hx.1 h1
      obtain ⟨g3, g4⟩ := avCVs_R h hx.2 h2
      refine ⟨by simp only [CRs, List.flatMap_append]; exact ⟨_, _, g1, g3, rfl⟩, ?_⟩
      intro g hg
      simp only [List.mem_append] at hg
      rcases hg with hg | hg
      · exact g2 g hg
      · exact g4 g hg
    · cases hp
  | [], _ :: _, _, _, hx, _ => by simp only [ARs] at hx
  | _ :: _, [], _, _, hx, _ => by simp only [ARs] at hx

mutual
theorem CR_U {U U' : Nat → Prop} (hU : ∀ k, U k → U' k) : ∀ (c : CV) (v : Value) (F : List Nat), CR w U c v F → CR w U' c v F
  | .any, v, F, h => by simpa only [CR] using h
  | .v p, v, F, h => by simp only [CR] at h ⊢; exact R_mono hU (fun _ _ => rfl) p v F h (fun _ _ => rfl)
  | .agg ps, v, F, h => by simp only [CR] at h ⊢; obtain ⟨us, e, hr⟩ := h; exact ⟨us, e, Rs_mono hU (fun _ _ => rfl) ps _ F hr (fun _ _ => rfl)⟩
  | .ptr ps, v, F, h => by
    simp only [CR] at h ⊢
    obtain ⟨b, vals, ty, F', h1, h2, h3, h4⟩ := h
    exact ⟨b, vals, ty, F', h1, h2, Rs_mono hU (fun _ _ => rfl) ps _ F' h3 (fun _ _ => rfl), h4⟩
  | .tup xs, v, F, h => by simp only [CR] at h ⊢; obtain ⟨us, e, hr⟩ := h; exact ⟨us, e, CRs_U hU xs _ F hr⟩
theorem CRs_U {U U' : Nat → Prop} (hU : ∀ k, U k → U' k) : ∀ (cs : List CV) (vs : List Value) (F : List Nat), CRs w U cs vs F → CRs w U' cs vs F
  | [], [], F, h => by simpa only [CRs] using h
  | c :: cs, v :: vs, F, h => by
    simp only [CRs] at h ⊢
    obtain ⟨F1, F2, h1, h2, h3⟩ := h
    exact ⟨F1, F2, CR_U hU c v F1 h1, CRs_U hU cs vs F2 h2, h3⟩
  | [], _ :: _, F, h => by simp only [CRs] at h
  | _ :: _, [], F, h => by simp only [CRs] at h
end

theorem look_none {i : Nat} : ∀ {l : List (Nat × AV)}, (∀ j v, (j, v) ∈ l → i ≠ j) → look i l = .any
  | [], _ => rfl
  | (j, v) :: r, h => by
    simp only [look]
    rw [if_neg (h j v (by simp)), look_none (fun j' v' hm => h j' v' (by simp [hm]))]

theorem argsAV_R {U : Nat → Prop} {O : Nat → AObj} : ∀ {cs : List CV} {vs : List Value} {k : Nat}, CRs w U cs vs [] → ∀ i, AR w U O ι (look i (argsAV k cs)) (if i < k then undef else vs.getD (i - k) undef)
  | [], [], k, h, i => by simp [argsAV, look, AR]
  | c :: cs, v :: vs, k, h, i => by
    simp only [CRs] at h
    obtain ⟨F1, F2, h1, h2, hF⟩ := h
    obtain ⟨rfl, rfl⟩ := List.append_eq_nil_iff.1 hF.symm
    simp only [argsAV, look]
    by_cases hi : i = k
    · subst hi
      rw [if_pos rfl, if_neg (by omega)]
      simp only [Nat.sub_self, List.getD_cons_zero]
      cases c with
      | v p => simp only [argAV]; simp only [CR] at h1; exact AR_c.2 h1
      | agg ps =>
        simp only [argAV, AR]
        simp only [CR] at h1
        obtain ⟨us, rfl, hr⟩ := h1
        exact ⟨us, rfl, map_c_ARs hr⟩
      | _ => simp only [argAV, AR]
    · rw [if_neg hi]
      have := argsAV_R (O := O) (k := k + 1) h2 i
      by_cases hlt : i < k
      · rw [if_pos hlt]; rw [if_pos (by omega)] at this; exact this
      · rw [if_neg hlt]; rw [if_neg (by omega)] at this
        rw [show i - k = (i - (k + 1)) + 1 by omega]
        simpa using this
  | [], _ :: _, _, h, _ => by simp only [CRs] at h
  | _ :: _, [], _, h, _ => by simp only [CRs] at h

/-- A function keeps its contract if its body, from its arguments, comes to its results. -/
theorem FnR.of_AW (hT : TyOK P T) {f : Nat} {fn : Func} {c : Code} {cargs : List CV} {cres : CV} (hf : P.funcs[f]? = some fn) (hb : fn.body = some c) (hname : (fn.name == "runtime.NumGoroutine") = false)
    {rs : List ResultVar} (hrs : fn.results.toList = rs) {N : Nat} (hN : fn.ntmps = N)
    (hn : decide (cargs.length ≤ N) = true) (h : AW P N c (mkE (argsAV 0 cargs) []) (fnK T rs cres)) : FnR P f cargs cres := by
  subst hrs hN
  replace hn := of_decide_eq_true hn
  refine ⟨⟨fn, hf, by rw [hb]; rfl, hname⟩, fun w V vals hargs hV => ?_⟩
  have hlen : cargs.length = vals.length := by
    clear h hn
    induction cargs generalizing vals with
    | nil => cases vals with
      | nil => rfl
      | cons => simp only [CRs] at hargs
    | cons c cs ih => cases vals with
      | nil => simp only [CRs] at hargs
      | cons v vs =>
        simp only [CRs] at hargs
        obtain ⟨F1, F2, _, h2, hF⟩ := hargs
        obtain ⟨rfl, rfl⟩ := List.append_eq_nil_iff.1 hF.symm
        simp [ih vs h2]
  refine calls_of_wp hf hb ?_
  let C : Ctx := ⟨w, V, fun _ => False, fn.ntmps⟩
  have hU : ∀ k, V k → Un C w (fun _ => []) k := fun k hk => ⟨hV k hk, .inl hk, by simp⟩
  have hS : Sim C (mkE (argsAV 0 cargs) []) { tmps := vals.toArray ++ Array.replicate (fn.ntmps - vals.toArray.size) undef, defers := [] } w (fun _ => undef) (fun _ => []) := by
    refine ⟨⟨rfl, rfl, rfl, Nat.le_refl _, fun _ _ _ => rfl⟩, fun i => ?_, fun o => ?_, by simp, by simp, by simp, rfl, ?_⟩
    · have := argsAV_R (O := (mkE (argsAV 0 cargs) []).o) (ι := fun _ => undef) (k := 0) (CRs_U hU _ _ _ hargs) i
      rw [if_neg (by omega), Nat.sub_zero] at this
      have e : (vals.toArray ++ Array.replicate (fn.ntmps - vals.toArray.size) undef).getD i undef = vals.getD i undef := by
        simp only [Array.getD_eq_getD_getElem?, List.getD_eq_getElem?_getD]
        by_cases hi : i < vals.length
        · rw [Array.getElem?_append_left (by simpa using hi)]; simp
        · rw [Array.getElem?_append_right (by simpa using hi), List.getElem?_eq_none (by omega), Array.getElem?_replicate]
          split <;> rfl
      rw [e]
      exact this
    · simp only [mkE, lookO, ObR]
    · simp only [Array.size_append, List.size_toArray, Array.size_replicate]
      show _ = fn.ntmps
      omega
  refine h C _ w _ rfl ⟨_, _, hS⟩ (fun e σ' a' w' hk hP => ?_)
  have hne : ∀ id, e ≠ .exit id := fun id he => by subst he; exact hk
  have hres : resOk T fn.results.toList σ' cres := by cases e with
    | normal => exact hk
    | exit id => exact absurd rfl (hne id)
    | ret => exact hk
  obtain ⟨ι', Fs', hS'⟩ := hP
  unfold resOk at hres
  split at hres
  · rename_i avs havs
    split at hres
    · rename_i xs gone hxs
      obtain ⟨hnd, hc⟩ := hres
      obtain ⟨vs, hvs, hars⟩ := resAVs_run hT hS' havs
      obtain ⟨hcr, hgone⟩ := avCVs_R hS' hars hxs
      have hrun : (results fn a'.tmps).run P w' = .ok (if h : vs.toArray.size = 1 then vs.toArray[0] else .tuple vs.toArray) w' := by
        rw [results_eq]
        have : (fn.results.mapM (readRes a'.tmps)).run P w' = .ok vs.toArray w' := by
          rw [Array.mapM_eq_mapM_toList]
          simp [hvs]
        simp [this]
      have hfin : a'.defers = [] ∧ ∃ v, (results fn a'.tmps).run P w' = .ok v w' ∧ ∃ u Fr, Ending.returned v = .returned u ∧ w.grownBy w' none ∧
          CR w' (fun k => k < w'.heap.size ∧ (V k ∨ w.heap.size ≤ k) ∧ k ∉ Fr) cres u Fr ∧ Fr.Nodup ∧ ∀ k, k ∈ Fr → w.heap.size ≤ k ∧ k < w'.heap.size := by
        refine ⟨hS'.df, _, hrun, _, gone.flatMap Fs', rfl, ?_, ?_, gone_nodup hS' hnd, ?_⟩
        · have hk := hS'.kept
          exact ⟨hk.os, hk.tape, hk.output, hk.size, fun k hk1 _ => hk.block k hk1 (fun hf => hf)⟩
        · have hU' : ∀ k, Un C w' Fs' k → k < w'.heap.size ∧ (V k ∨ w.heap.size ≤ k) ∧ k ∉ gone.flatMap Fs' := by
            intro k hk
            refine ⟨hk.1, ?_, fun hm => ?_⟩
            · rcases hk.2.1 with h1 | h1 | h1
              · exact .inl h1
              · exact h1.elim
              · exact .inr h1
            · obtain ⟨g, _, hkg⟩ := List.mem_flatMap.1 hm
              exact hk.2.2 g hkg
          have hcr' := CRs_U hU' _ _ _ hcr
          match xs, vs, hcr', hc with
          | [x], [v], hcr', hc =>
            simp only [CRs] at hcr'
            obtain ⟨F1, F2, h1, h2, hF⟩ := hcr'
            subst h2
            simp only at hc
            subst hc
            rw [List.append_nil] at hF
            rw [← hF] at h1
            simpa using h1
          | [], [], hcr', hc =>
            simp only at hc
            subst hc
            simp only [CR]
            exact ⟨#[], by simp, hcr'⟩
          | x :: y :: xs, v :: u :: vs, hcr', hc =>
            simp only at hc
            subst hc
            simp only [CR]
            exact ⟨(v :: u :: vs).toArray, by simp, hcr'⟩
          | [], _ :: _, hcr', _ => simp only [CRs] at hcr'
          | [x], [], hcr', _ => simp only [CRs] at hcr'
          | [x], _ :: _ :: _, hcr', _ => simp only [CRs] at hcr'; obtain ⟨_, _, _, h, _⟩ := hcr'; exact h.elim
          | _ :: _ :: _, [], hcr', _ => simp only [CRs] at hcr'
          | _ :: _ :: _, [_], hcr', _ => simp only [CRs] at hcr'; obtain ⟨_, _, _, h, _⟩ := hcr'; exact h.elim
        · intro k hk
          obtain ⟨g, hg, hkg⟩ := List.mem_flatMap.1 hk
          have := hS'.own g k hkg
          refine ⟨?_, this.1⟩
          rcases this.2 with h1 | h1
          · exact h1
          · exact h1.elim
      cases e with
      | normal => exact hfin
      | exit id => exact absurd rfl (hne id)
      | ret => exact hfin
    · cases hres
  · cases hres

end
end Am
