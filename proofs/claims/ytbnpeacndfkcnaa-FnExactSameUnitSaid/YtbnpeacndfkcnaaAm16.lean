/- One operation, calls among them. No condition. -/
import Derived.Test.YtbnpeacndfkcnaaAm15
namespace Am
open Go
set_option linter.unusedSimpArgs false
set_option linter.unusedVariables false
set_option linter.unnecessarySimpa false

def freeOE (O : Nat → AObj) : List (Nat × AObj) → Prop
  | [] => True
  | (k, _) :: r => O k = .none ∧ freeOE O r

theorem freeOE_mem {O : Nat → AObj} : ∀ {r : List (Nat × AObj)}, freeOE O r → ∀ x ob, (x, ob) ∈ r → O x = .none
  | [], _, _, _, h => by cases h
  | (k, ob') :: r, hr, x, ob, h => by
    rcases List.mem_cons.1 h with h | h
    · cases h; exact hr.1
    · exact freeOE_mem hr.2 x ob h

/-- All the guards that operands hang on hold. -/
def sides (ρ : Operand → AV) : List Operand → Prop
  | [] => True
  | x :: xs => (ρ x).ug.1 ∧ sides ρ xs

/-- A call of a function, by its contract. -/
structure CallR (P : Program) (H : Nat → Bool) (ρ : Operand → AV) (O : Nat → AObj) (d f : Nat) (args : List Operand) (cres : CV) : Prop where
  sd : sides ρ args
  ar : ∃ cargs vw, argsView O (args.map fun x => (ρ x).ug.2) = some (cargs, vw) ∧ FnR P f cargs cres ∧ (vw = true → noImC cres)
  sm : small cres = true
  gh : O (64 * d + 63) = .none
  fr : freeOE O (imp (H d) (64 * d) cres).2

inductive StepR (P : Program) (T : Ty) (H : Nat → Bool) (ρ : Operand → AV) (O : Nat → AObj) (o : Oper) : AV → List (Nat × AObj) → Prop
  | op {e : Eff} (h : astep T ρ O o = some e) (hs : e.side) : StepR P T H ρ O o e.val e.oe
  | call {f d : Nat} {args : Array Operand} {ts : Array TypeId} {cres : CV} (ho : o.op = .call ⟨.value (.func f), args, ts⟩) (hd : o.dst = some d) (h : CallR P H ρ O d f args.toList cres) :
      StepR P T H ρ O o (imp (H d) (64 * d) cres).1 (imp (H d) (64 * d) cres).2

section
variable {P : Program} {T : Ty} {C : Ctx} {σ : AEnv} {a : Act} {w w' : World} {ι : Nat → Value} {Fs : Nat → List Nat} {τ : Nat → AObj} {H : Nat → Bool}

/-- What stands behind a step: the slots and the world are as the abstract machine has them. -/
def Post (C : Ctx) (σ : AEnv) (a : Act) (w : World) : Prop := ∃ ι Fs, Sim C σ a w ι Fs

theorem evs_ARs (h : Sim C σ a w ι Fs) : ∀ {xs : List Operand}, sides (ev σ) xs → ARs w (Un C w Fs) σ.o ι (xs.map fun x => (ev σ x).ug.2) (xs.map a.eval)
  | [], _ => by simp [ARs]
  | x :: xs, hs => by
    simp only [sides] at hs
    simp only [List.map_cons, ARs]
    exact ⟨ev_ug h x (s := (ev σ x).ug.1) rfl hs.1, evs_ARs h hs.2⟩

theorem CRs_mono {U U' : Nat → Prop} (hU : ∀ k, U k → U' k) : ∀ (c : CV) (v : Value) (F : List Nat), small c = true → CR w U c v F → CR w U' c v F := by
  have one : ∀ (c : CV) (v : Value) (F : List Nat), small1 c = true → CR w U c v F → CR w U' c v F := by
    intro c v F hs h
    cases c with
    | v p => simp only [CR] at h ⊢; exact R_mono hU (fun _ _ => rfl) p v F h (fun _ _ => rfl)
    | agg ps => simp only [CR] at h ⊢; obtain ⟨us, e, hr⟩ := h; exact ⟨us, e, Rs_mono hU (fun _ _ => rfl) ps _ F hr (fun _ _ => rfl)⟩
    | any => simpa only [CR] using h
    | _ => simp [small1] at hs
  intro c v F hs h
  cases c with
  | tup xs =>
    simp only [CR] at h ⊢
    obtain ⟨vs, e, hr⟩ := h
    refine ⟨vs, e, ?_⟩
    simp only [small, Bool.and_eq_true] at hs
    replace hs := hs.2
    clear e
    generalize vs.toList = us at hr
    induction xs generalizing us F with
    | nil => cases us <;> simpa only [CRs] using hr
    | cons x xs ih =>
      cases us with
      | nil => simp only [CRs] at hr
      | cons u us =>
        simp only [CRs] at hr ⊢
        obtain ⟨F1, F2, h1, h2, hF⟩ := hr
        simp only [List.all_cons, Bool.and_eq_true] at hs
        exact ⟨F1, F2, one x u F1 hs.1 h1, ih F2 hs.2 us h2, hF⟩
  | ptr ps => simp [small, small1] at hs
  | v p => exact one _ _ _ hs h
  | agg ps => exact one _ _ _ hs h
  | any => exact one _ _ _ hs h

theorem CR_noIm {U U' : Nat → Prop} : ∀ (c : CV) (v : Value) (F : List Nat), noImC c → CR w U c v F → CR w U' c v F := by
  have one : ∀ (c : CV) (v : Value) (F : List Nat), noImC1 c → CR w U c v F → CR w U' c v F := by
    intro c v F hs h
    cases c with
    | v p => simp only [CR, noImC1] at h hs ⊢; exact R_noIm p v F h hs
    | agg ps => simp only [CR, noImC1] at h hs ⊢; obtain ⟨us, e, hr⟩ := h; exact ⟨us, e, Rs_noIm ps _ F hr hs⟩
    | any => simpa only [CR] using h
    | _ => simp [noImC1] at hs
  intro c v F hs h
  cases c with
  | tup xs =>
    simp only [CR] at h ⊢
    obtain ⟨vs, e, hr⟩ := h
    refine ⟨vs, e, ?_⟩
    simp only [noImC] at hs
    clear e
    generalize vs.toList = us at hr
    induction xs generalizing us F with
    | nil => cases us <;> simpa only [CRs] using hr
    | cons x xs ih =>
      cases us with
      | nil => simp only [CRs] at hr
      | cons u us =>
        simp only [CRs, noImCs] at hr hs ⊢
        obtain ⟨F1, F2, h1, h2, hF⟩ := hr
        exact ⟨F1, F2, one x u F1 hs.1 h1, ih F2 hs.2 us h2, hF⟩
  | ptr ps => simp [noImC, noImC1] at hs
  | v p => exact one _ _ _ hs h
  | agg ps => exact one _ _ _ hs h
  | any => exact one _ _ _ hs h

/-- A call by its contract. -/
theorem call_sound (h : Sim C σ a w ι Fs) (ha : Agr σ.o τ) {d f : Nat} {args : List Operand} {cres : CV} (hc : CallR P H (ev σ) τ d f args cres) (hgh : σ.o (64 * d + 63) = .none)
    (hfr : ∀ x ob, (x, ob) ∈ (imp (H d) (64 * d) cres).2 → σ.o x = .none) :
    Calls P f (args.map a.eval).toArray w (fun e w' => ∃ v ι' Fs', e = .returned v ∧ Sim C (AEnv.wr (imp (H d) (64 * d) cres).2 σ) a w' ι' Fs' ∧ AR w' (Un C w' Fs') (AEnv.wr (imp (H d) (64 * d) cres).2 σ).o ι' (imp (H d) (64 * d) cres).1 v) := by
  obtain ⟨cargs, vw, hav, hfn, hno⟩ := hc.ar
  have hargs := argsView_R h ha (evs_ARs h hc.sd) hav vw id
  refine (hfn.call w (Vw C w Fs vw) _ hargs (fun k hk => ?_)).mono ?_
  · rcases hk with hk | hk
    · exact hk.1
    · exact hk.2.1
  rintro e w' ⟨v, Fr, rfl, hg, hR, hnd, hfresh⟩
  -- put aside what came
  have M : Move C σ.o σ.o w w' ι ι Fs (fupd Fs (64 * d + 63) Fr) (· = 64 * d + 63) := by
    refine ⟨hg.os, hg.tape, hg.output, hg.size, fun k hk _ => hg.block k hk (by simp), fun o hX => ⟨rfl, rfl, fupd_ne _ hX _⟩, fun o hX => .inl (hX ▸ hgh), fun o hX => ?_, fun o hX => ?_, fun o hX b hb => ?_, fun o o' hX hX' hne => absurd (hX.trans hX'.symm) hne⟩
    · subst hX; rw [hgh]; exact trivial
    · subst hX; rw [fupd_same]; exact hnd
    · subst hX; rw [fupd_same] at hb
      exact ⟨(hfresh b hb).2, .inl (hfresh b hb).1⟩
  have h1 := h.move M
  have hR' : CR w' (Un C w' (fupd Fs (64 * d + 63) Fr)) cres v Fr := by
    cases vw with
    | true => exact CR_noIm cres v Fr (hno rfl) hR
    | false =>
      refine CRs_mono (fun k hk => ?_) cres v Fr hc.sm hR
      obtain ⟨k1, k2, k3⟩ := hk
      refine ⟨k1, ?_, fun o ho => ?_⟩
      · rcases k2 with (k2 | k2) | k2
        · exact k2.2.1
        · exact absurd k2.1 (by simp)
        · exact .inr (.inr (Nat.le_trans h.kept.size k2))
      · by_cases e : o = 64 * d + 63
        · subst e; rw [fupd_same] at ho; exact k3 ho
        · rw [fupd_ne _ e] at ho
          rcases k2 with (k2 | k2) | k2
          · exact k2.2.2 o ho
          · exact absurd k2.1 (by simp)
          · have := (h.own o k ho).1; omega
  obtain ⟨ι', Fs', hcame, har⟩ := imp_came (own := H d) (k := 64 * d) h1 hgh hfr hc.sm hR' (fun b hb => by rw [fupd_same]; exact hb) hnd
  exact ⟨v, ι', Fs', rfl, hcame.sim, har⟩

/-- One operation does in the machine what it does here. -/
theorem stepR_sound (hT : TyOK P T) (h : Sim C σ a w ι Fs) (ha : Agr σ.o τ) {o : Oper} {av : AV} {oe : List (Nat × AObj)} (he : StepR P T H (ev σ) τ o av oe)
    (hf : ∀ k ob, (k, ob) ∈ oe → τ k = .none → σ.o k = .none) (hg : ∀ d, o.dst = some d → τ (64 * d + 63) = .none → σ.o (64 * d + 63) = .none) (hN : ∀ d, o.dst = some d → d < C.N)
    {K : Act → World → Prop} {Q : Exit → Act → World → Prop} (hK : ∀ a' w', Post C ((AEnv.wr oe σ).set o.dst av) a' w' → K a' w') : o.wp P a w K Q := by
  cases he with
  | op h1 hs =>
    rename_i e
    obtain ⟨r, w', ι', Fs', v, hr, hrv, hS, hA⟩ := step_sound hT h ha h1 hs hf
    unfold Oper.wp
    rw [hr]
    rcases hrv with rfl | ⟨rfl, rfl⟩
    · simp only [Oper.upon]; exact hK _ _ ⟨ι', Fs', hS.put o.dst hN hA⟩
    · simp only [Oper.upon]; exact hK _ _ ⟨ι', Fs', hS.put o.dst hN hA⟩
  | @call f d args ts cres ho hd hc =>
    have hcall := call_sound h ha hc (hg d hd hc.gh) (fun x ob hm => hf x ob hm (freeOE_mem hc.fr x ob hm))
    have hrun : (execOp a.eval o).run P w = .ok (.enter f (args.map a.eval)) w := by
      obtain ⟨cargs, vw, hav, hfn, hno⟩ := hc.ar
      obtain ⟨fn, hfn1, hfn2, hfn3⟩ := hfn.fin.ex
      obtain ⟨dst, op, type, pos, after, guard⟩ := o
      simp only at ho
      subst ho
      have hfn2' : ¬ (fn.body = none) := fun e => by simp [e] at hfn2
      have hfn3' : ¬ (fn.name = "runtime.NumGoroutine") := by simpa using hfn3
      simp [execOp, resolve, Act.eval, Deferred.ofValue, invoke, callFunc, hfn1, hfn2', hfn3']
    unfold Oper.wp
    rw [hrun]
    simp only [Oper.upon]
    have e : (args.toList.map a.eval).toArray = args.map a.eval := by apply Array.ext'; simp
    rw [e] at hcall
    refine hcall.mono ?_
    rintro e w' ⟨v, ι', Fs', rfl, hS, hA⟩
    exact hK _ _ ⟨ι', Fs', hS.put o.dst hN hA⟩

end
end Am
