/- What is nil may be held as an own array of none. No condition. -/
import Derived.Test.YtjbbhccphedkfaaGreatAm26
set_option linter.unusedSimpArgs false
set_option linter.unusedVariables false
set_option linter.unnecessarySimpa false
set_option linter.unusedSectionVars false
namespace Am
open Go
inductive Ad where
  | slot (i k e s:Nat)
  | cell (o j k e s:Nat)
def adT (i k:Nat):List (Nat × AV) → List (Nat × AV)
  | [] => []
  | (j,v) :: r => if i = j then (j,.arr k) :: r else (j,v) :: adT i k r
def setB (j k:Nat):AObj → AObj
  | .box cs => .box (cs.set j (.arr k))
  | x => x
def adB (o j k:Nat):List (Nat × AObj) → List (Nat × AObj)
  | [] => []
  | (x,ob) :: r => if o = x then (x,setB j k ob) :: r else (x,ob) :: adB o j k r
def isNil:AV → Bool
  | .nil => true
  | _ => false
def isNone:AObj → Bool
  | .none => true
  | _ => false
def nilAt (j:Nat):AObj → Bool
  | .box cs => match cs[j]? with | some .nil => true | _ => false
  | _ => false
def adsRun:List Ad → List (Nat × AV) → List (Nat × AObj) → Option AEnv
  | [],ts,os => some (mkE ts os)
  | .slot i k e s :: r,ts,os => if isNil (look i ts) && isNone (lookO k os) then adsRun r (adT i k ts) ((k,.arr 0 e s 0 []) :: os) else none
  | .cell o j k e s :: r,ts,os => if nilAt j (lookO o os) && isNone (lookO k os) && decide (o ≠ k) then adsRun r ts ((k,.arr 0 e s 0 []) :: adB o j k os) else none
theorem look_adT {i k:Nat}:∀ {ts:List (Nat × AV)},isNil (look i ts) = true → ∀ x,look x (adT i k ts) = if x = i then .arr k else look x ts
  | [],h,x => by simp [look,isNil] at h
  | (j,v) :: r,h,x => by
    simp only [look,adT] at h ⊢
    by_cases e:i = j
    · subst e
      simp only [if_true,look]
      by_cases e2:x = i <;> simp [e2]
    · rw [if_neg e] at h
      simp only [if_neg e,look]
      rw [look_adT h x]
      by_cases e2:x = j
      · have q:¬ j = i:=fun e3 => e e3.symm
        subst e2; simp [q]
      · simp [e2]
theorem lookO_adB {o j k:Nat}:∀ {os:List (Nat × AObj)} x,lookO x (adB o j k os) = if x = o then setB j k (lookO o os) else lookO x os
  | [],x => by by_cases e:x = o <;> simp [lookO,adB,setB,e]
  | (y,ob) :: r,x => by
    simp only [lookO,adB]
    by_cases e:o = y
    · subst e
      simp only [if_true,lookO]
      by_cases e2:x = o <;> simp [e2]
    · simp only [if_neg e,lookO]
      rw [lookO_adB x]
      by_cases e2:x = y
      · have q:¬ y = o:=fun e3 => e e3.symm
        subst e2; simp [q]
      · simp [e2]
section
variable {C:Ctx} {σ:AEnv} {a:Act} {w:World} {ι:Nat → Value} {Fs:Nat → List Nat}
theorem Sim.nil (h:Sim C σ a w ι Fs) {k:Nat} (hk:σ.o k = .none) (e s:Nat):∃ ι' Fs',Sim C (σ.upd k (.arr 0 e s 0 [])) a w ι' Fs' ∧ ι' k = .slice none 0 0 ∧ (∀ x,x ≠ k → ι' x = ι x) ∧ (∀ y,Un C w Fs y → Un C w Fs' y):=by
  refine ⟨_,_,h.make hk (gone:=[]) (ob:=.arr 0 e s 0 []) (v:=.slice none 0 0) (F:=[]) (by simp) rfl (Tp.refl _) rfl (Nat.le_refl _) (fun _ _ _ => rfl) (by simp) (by simp) ?_,fupd_same _ _ _,fun x hx => fupd_ne _ hx _,fun y hy => ⟨hy.1,hy.2.1,fun o => ?_⟩⟩
  · simp only [ObR]
    exact ⟨[],[],World.ownsRow_nil w 0 _ _,by simp [Rs],by simp [Value.ownBlock]⟩
  · by_cases e:o = k
    · subst e; rw [fupd_same]; simp
    · rw [fupd_ne _ e]; simpa using hy.2.2 o
theorem isNil_eq {v:AV} (h:isNil v = true):v = .nil:=by cases v <;> simp_all [isNil]
theorem isNone_eq {v:AObj} (h:isNone v = true):v = .none:=by cases v <;> simp_all [isNone]
theorem nilAt_eq {j:Nat} {v:AObj} (h:nilAt j v = true):∃ cs,v = .box cs ∧ cs[j]? = some .nil:=by
  cases v <;> simp only [nilAt] at h
  all_goals first | cases h; done | skip
  rename_i cs
  refine ⟨cs,rfl,?_⟩
  split at h
  · assumption
  · cases h
theorem Wk_slot {ts:List (Nat × AV)} {os:List (Nat × AObj)} {i k:Nat} (e s:Nat) (h1:isNil (look i ts) = true) (h2:isNone (lookO k os) = true):Wk (mkE ts os) (mkE (adT i k ts) ((k,.arr 0 e s 0 []) :: os)):=by
  rintro C a w ⟨ι,Fs,h⟩
  have hn:a.tmps.getD i undef = .slice none 0 0:=by
    have:=h.tm i
    rw [show (mkE ts os).t i = look i ts from rfl,isNil_eq h1] at this
    simpa only [AR] using this
  obtain ⟨ι',Fs',g,g1,g2,g3⟩:=h.nil (k:=k) (isNone_eq h2) e s
  refine ⟨ι',Fs',g.kept,fun x => ?_,g.ob,g.dis,g.nd,g.own,g.df,g.sz,g.kp⟩
  have e1:(mkE (adT i k ts) ((k,AObj.arr 0 e s 0 []) :: os)).t x = if x = i then .arr k else look x ts:=look_adT h1 x
  rw [e1]
  by_cases e2:x = i
  · subst e2
    rw [if_pos rfl]
    simp only [AR]
    rw [show (mkE (adT x k ts) ((k,AObj.arr 0 e s 0 []) :: os)).o k = .arr 0 e s 0 [] by simp [mkE,lookO]]
    simp only
    rw [g1]; exact hn
  · rw [if_neg e2]; exact g.tm x
theorem Wk_cell {ts:List (Nat × AV)} {os:List (Nat × AObj)} {o j k:Nat} (e s:Nat) (h1:nilAt j (lookO o os) = true) (h2:isNone (lookO k os) = true) (h3:o ≠ k):Wk (mkE ts os) (mkE ts ((k,.arr 0 e s 0 []) :: adB o j k os)):=by
  rintro C a w ⟨ι,Fs,h⟩
  obtain ⟨cs,e1,e2⟩:=nilAt_eq h1
  obtain ⟨ι',Fs',g,g1,g2,g3⟩:=h.nil (k:=k) (isNone_eq h2) e s
  have ho:((mkE ts os).upd k (.arr 0 e s 0 [])).o o = .box cs:=by
    show (if o = k then _ else lookO o os) = _
    rw [if_neg h3,e1]
  have ok:((mkE ts os).upd k (.arr 0 e s 0 [])).o k = .arr 0 e s 0 []:=by
    show (if k = k then _ else lookO k os) = _
    rw [if_pos rfl]
  have r:=g.refine (cs':=cs.set j (.arr k)) ho (fun b vals ty hb hw => by
    have hob:=g.ob o
    rw [ho] at hob
    obtain ⟨b',vals',ty',q1,q2,q3,q4,q5⟩:=hob
    rw [hb] at q1; cases q1
    rw [hw] at q2; cases q2
    refine ARs_of_get (by simpa using ARs_length _ _ q3) (fun i x v hx hv => ?_)
    rw [List.getElem?_set] at hx
    split at hx
    · rename_i hij
      subst hij
      split at hx
      · cases hx
        obtain ⟨v',hv',hr⟩:=ARs_get q3 e2
        rw [hv] at hv'; cases hv'
        simp only [AR] at hr ⊢
        rw [ok]
        simp only
        rw [g1]; exact hr
      · cases hx
    · obtain ⟨v',hv',hr⟩:=ARs_get q3 hx
      rw [hv] at hv'; cases hv'
      exact hr)
  refine ⟨ι',Fs',?_⟩
  have e3:((mkE ts os).upd k (.arr 0 e s 0 [])).upd o (.box (cs.set j (.arr k))) = mkE ts ((k,.arr 0 e s 0 []) :: adB o j k os):=by
    unfold AEnv.upd mkE
    congr 1
    funext x
    simp only [lookO]
    rw [lookO_adB]
    by_cases q:x = o
    · subst q; simp [h3,e1,setB]
    · simp [q]
  rw [← e3]; exact r
theorem Wk_ads:∀ {ads:List Ad} {ts:List (Nat × AV)} {os:List (Nat × AObj)} {σ':AEnv},adsRun ads ts os = some σ' → Wk (mkE ts os) σ'
  | [],ts,os,σ',h => by simp only [adsRun,Option.some.injEq] at h; subst h; exact Wk.refl _
  | .slot i k e s :: r,ts,os,σ',h => by
    simp only [adsRun] at h
    split at h
    · rename_i hc
      simp only [Bool.and_eq_true] at hc
      exact (Wk_slot e s hc.1 hc.2).trans (Wk_ads h)
    · cases h
  | .cell o j k e s :: r,ts,os,σ',h => by
    simp only [adsRun] at h
    split at h
    · rename_i hc
      simp only [Bool.and_eq_true,decide_eq_true_eq] at hc
      exact (Wk_cell e s hc.1.1 hc.1.2 hc.2).trans (Wk_ads h)
    · cases h
theorem Wk_toA {σ':AEnv} (keep:List Nat) (inv:List (Nat × Nat)) (ads:List Ad) (h1:distinct (inv.map (·.1)) = true) (h2:distinct (inv.map (·.2)) = true)
    (h:adsRun ads (keep.map fun i => (i,renA (newOf inv) (σ.t i))) (inv.map fun p => (p.1,renO (newOf inv) (σ.o p.2))) = some σ'):Wk σ σ' :=
  (Wk_to keep inv h1 h2 rfl).trans (Wk_ads h)
end
attribute [simp] adsRun adT adB setB isNil isNone nilAt
end Am
