/- A state held against another: less known,other names. No condition. -/
import Derived.Test.YtjbbhccphedkfaaGreatAm22
set_option linter.unusedSimpArgs false
set_option linter.unusedVariables false
set_option linter.unnecessarySimpa false
set_option linter.unusedSectionVars false
namespace Am
open Go
mutual
def renA (r:Nat → Option Nat):AV → AV
  | .box o off => match r o with | some n => .box n off | none => .any
  | .arr o => match r o with | some n => .arr n | none => .any
  | .pa o off => match r o with | some n => .pa n off | none => .any
  | .inr _ _ _ => .any
  | .mp o => match r o with | some n => .mp n | none => .any
  | .agg cs => .agg (renAs r cs)
  | .tup cs => .tup (renAs r cs)
  | .fn f cs => .fn f (renAs r cs)
  | .gd b v => .gd b (renA r v)
  | .c p => .c p
  | .pc cs off => .pc cs off
  | .nil => .nil
  | .any => .any
def renAs (r:Nat → Option Nat):List AV → List AV
  | [] => []
  | a :: as => renA r a :: renAs r as
end
def renO (r:Nat → Option Nat):AObj → AObj
  | .box cs => .box (renAs r cs)
  | .arr _ e s n cs => .arr 0 e s n cs
  | x => x
def newOf:List (Nat × Nat) → Nat → Option Nat
  | [],_ => none
  | (n,o) :: r,x => if x = o then some n else newOf r x
def oldOf:List (Nat × Nat) → Nat → Option Nat
  | [],_ => none
  | (n,o) :: r,x => if x = n then some o else oldOf r x
def distinct:List Nat → Bool
  | [] => true
  | x :: r => !r.contains x && distinct r
def nrm (keep:List Nat) (inv:List (Nat × Nat)) (σ:AEnv):AEnv :=
  mkE (keep.map fun i => (i,renA (newOf inv) (σ.t i))) (inv.map fun p => (p.1,renO (newOf inv) (σ.o p.2)))
section
variable {C:Ctx} {σ:AEnv} {a:Act} {w:World} {ι:Nat → Value} {Fs:Nat → List Nat}
structure Ren (r f:Nat → Option Nat) (O O':Nat → AObj) (ι ι':Nat → Value):Prop where
  rf:∀ o n,r o = some n → f n = some o
  ob:∀ n o,f n = some o → O' n = renO r (O o)
  val:∀ n o,f n = some o → ι' n = ι o
mutual
theorem AR_ren {U U':Nat → Prop} {O O':Nat → AObj} {ι ι':Nat → Value} {r f:Nat → Option Nat} (hr:Ren r f O O' ι ι') (hU:∀ k,U k → U' k):∀ (a:AV) (v:Value),AR w U O ι a v → AR w U' O' ι' (renA r a) v
  | .any,v,h => by simp only [renA,AR]
  | .c p,v,h => by simp only [renA,AR] at h ⊢; exact R_mono hU (fun _ _ => rfl) p v [] h (by simp)
  | .nil,v,h => by simpa only [renA,AR] using h
  | .agg cs,v,h => by simp only [renA,AR] at h ⊢; obtain ⟨vs,e,hs⟩:=h; exact ⟨vs,e,ARs_ren hr hU cs _ hs⟩
  | .tup cs,v,h => by simp only [renA,AR] at h ⊢; obtain ⟨vs,e,hs⟩:=h; exact ⟨vs,e,ARs_ren hr hU cs _ hs⟩
  | .fn f cs,v,h => by simp only [renA,AR] at h ⊢; obtain ⟨vs,e,hs⟩:=h; exact ⟨vs,e,ARs_ren hr hU cs _ hs⟩
  | .gd b x,v,h => by simp only [renA,AR] at h ⊢; exact ⟨fun hb => AR_ren hr hU x v (h.1 hb),h.2⟩
  | .pc cs off,v,h => by
    simp only [renA,AR] at h ⊢
    obtain ⟨b,o0,xs,hv,hb,hm,hrr⟩:=h
    exact ⟨b,o0,xs,hv,hU _ hb,hm,Rs_mono hU (fun _ _ => rfl) cs xs [] hrr (by simp)⟩
  | .box o off,v,h => by
    simp only [renA]
    cases hro:r o with
    | none => simp only [AR]
    | some n =>
      have hf:=hr.rf o n hro
      simp only [AR,hr.ob n o hf,hr.val n o hf] at h ⊢
      cases hO:O o with
      | none => rw [hO] at h; exact h
      | dead => simp only [renO]
      | box cs => rw [hO] at h; simp only [renO]; exact h
      | arr => rw [hO] at h; exact h
      | mp Q => rw [hO] at h; exact h
  | .arr o,v,h => by
    simp only [renA]
    cases hro:r o with
    | none => simp only [AR]
    | some n =>
      have hf:=hr.rf o n hro
      simp only [AR,hr.ob n o hf,hr.val n o hf] at h ⊢
      cases hO:O o with
      | none => rw [hO] at h; exact h
      | dead => simp only [renO]
      | box cs => rw [hO] at h; exact h
      | arr => rw [hO] at h; simp only [renO]; exact h
      | mp Q => rw [hO] at h; exact h
  | .pa o off,v,h => by
    simp only [renA]
    cases hro:r o with
    | none => simp only [AR]
    | some n =>
      have hf:=hr.rf o n hro
      simp only [AR,hr.ob n o hf,hr.val n o hf] at h ⊢
      cases hO:O o with
      | none => rw [hO] at h; exact h
      | dead => simp only [renO]
      | box cs => rw [hO] at h; exact h
      | arr => rw [hO] at h; simp only [renO]; exact h
      | mp Q => rw [hO] at h; simp only [renO]; exact h
  | .inr o g off,v,h => by simp only [renA,AR]
  | .mp o,v,h => by
    simp only [renA]
    cases hro:r o with
    | none => simp only [AR]
    | some n =>
      have hf:=hr.rf o n hro
      simp only [AR,hr.ob n o hf,hr.val n o hf] at h ⊢
      cases hO:O o with
      | none => rw [hO] at h; exact h
      | dead => simp only [renO]
      | box cs => rw [hO] at h; exact h
      | arr => rw [hO] at h; exact h
      | mp Q => rw [hO] at h; simp only [renO]; exact h
theorem ARs_ren {U U':Nat → Prop} {O O':Nat → AObj} {ι ι':Nat → Value} {r f:Nat → Option Nat} (hr:Ren r f O O' ι ι') (hU:∀ k,U k → U' k):∀ (as:List AV) (vs:List Value),ARs w U O ι as vs → ARs w U' O' ι' (renAs r as) vs
  | [],[],_ => by simp only [renAs,ARs]
  | a :: as,v :: vs,h => by simp only [renAs,ARs] at h ⊢; exact ⟨AR_ren hr hU a v h.1,ARs_ren hr hU as vs h.2⟩
  | [],_ :: _,h => by simp only [ARs] at h
  | _ :: _,[],h => by simp only [ARs] at h
end
theorem newOf_oldOf:∀ {inv:List (Nat × Nat)},distinct (inv.map (·.1)) = true → ∀ o n,newOf inv o = some n → oldOf inv n = some o
  | [],_,o,n,h => by simp [newOf] at h
  | (n',o') :: r,hd,o,n,h => by
    simp only [List.map_cons,distinct,Bool.and_eq_true,Bool.not_eq_true'] at hd
    simp only [newOf] at h
    simp only [oldOf]
    split at h
    · rename_i e
      cases h
      simp [e]
    · have ih:=newOf_oldOf hd.2 o n h
      by_cases e:n = n'
      · exfalso
        subst e
        have:n ∈ r.map (·.1):=by
          clear hd ih
          induction r with
          | nil => simp [newOf] at h
          | cons p r ih =>
            obtain ⟨a,b⟩:=p
            simp only [newOf] at h
            split at h
            · cases h; simp
            · simp only [List.map_cons,List.mem_cons]; exact .inr (ih h)
        rw [← List.contains_iff_mem] at this
        rw [this] at hd
        cases hd.1
      · rw [if_neg e]; exact ih
theorem oldOf_mem:∀ {inv:List (Nat × Nat)} {n o:Nat},oldOf inv n = some o → o ∈ inv.map (·.2)
  | [],n,o,h => by simp [oldOf] at h
  | (n',o') :: r,n,o,h => by
    simp only [oldOf] at h
    split at h
    · cases h; simp
    · simp only [List.map_cons,List.mem_cons]; exact .inr (oldOf_mem h)
theorem oldOf_inj:∀ {inv:List (Nat × Nat)},distinct (inv.map (·.2)) = true → ∀ n n' o,oldOf inv n = some o → oldOf inv n' = some o → n = n'
  | [],_,n,n',o,h,_ => by simp [oldOf] at h
  | (a,b) :: r,hd,n,n',o,h,h' => by
    simp only [List.map_cons,distinct,Bool.and_eq_true,Bool.not_eq_true'] at hd
    simp only [oldOf] at h h'
    have hb:∀ {m},oldOf r m = some b → False:=fun hm => by
      have:=oldOf_mem hm
      rw [← List.contains_iff_mem] at this
      rw [this] at hd
      cases hd.1
    split at h <;> split at h'
    · rename_i e e'; rw [e,e']
    · cases h; exact (hb h').elim
    · cases h'; exact (hb h).elim
    · exact oldOf_inj hd.2 n n' o h h'
theorem lookO_map {g:Nat → AObj}:∀ (inv:List (Nat × Nat)) (n:Nat),lookO n (inv.map fun p => (p.1,g p.2)) = match oldOf inv n with | some o => g o | none => .none
  | [],n => rfl
  | (a,b) :: r,n => by
    simp only [List.map_cons,lookO,oldOf]
    split
    · rfl
    · exact lookO_map r n
theorem look_map {g:Nat → AV}:∀ (keep:List Nat) (i:Nat),look i (keep.map fun j => (j,g j)) = if i ∈ keep then g i else .any
  | [],i => by simp [look]
  | j :: r,i => by
    simp only [List.map_cons,look,List.mem_cons]
    by_cases e:i = j
    · subst e; simp
    · rw [if_neg e,look_map r i]; simp [e]
theorem Wk_nrm {keep:List Nat} {inv:List (Nat × Nat)} (h1:distinct (inv.map (·.1)) = true) (h2:distinct (inv.map (·.2)) = true):Wk σ (nrm keep inv σ):=by
  rintro C a w ⟨ι,Fs,h⟩
  let ι':Nat → Value:=fun n => match oldOf inv n with | some o => ι o | none => undef
  let Fs':Nat → List Nat:=fun n => match oldOf inv n with | some o => Fs o | none => []
  have hO:∀ n,(nrm keep inv σ).o n = match oldOf inv n with | some o => renO (newOf inv) (σ.o o) | none => .none:=fun n => lookO_map (g:=fun o => renO (newOf inv) (σ.o o)) inv n
  have hren:Ren (newOf inv) (oldOf inv) σ.o (nrm keep inv σ).o ι ι':=⟨newOf_oldOf h1,fun n o hn => by rw [hO,hn],fun n o hn => by simp only [ι',hn]⟩
  have hU:∀ k,Un C w Fs k → Un C w Fs' k:=fun k hk => ⟨hk.1,hk.2.1,fun n => by
    simp only [Fs']
    cases hn:oldOf inv n with
    | none => simp
    | some o => exact hk.2.2 o⟩
  refine ⟨ι',Fs',h.kept,fun i => ?_,fun n => ?_,fun n n' hne b hb => ?_,fun n => ?_,fun n b hb => ?_,h.df,h.sz,h.kp⟩
  · have:(nrm keep inv σ).t i = if i ∈ keep then renA (newOf inv) (σ.t i) else .any:=look_map keep i
    rw [this]
    split
    · exact AR_ren hren hU _ _ (h.tm i)
    · simp only [AR]
  · rw [hO]
    cases hn:oldOf inv n with
    | none => simp only [ObR]
    | some o =>
      simp only [Fs',ι',hn]
      have hob:=h.ob o
      cases ho:σ.o o with
      | none => simp only [renO,ObR]
      | dead => rw [ho] at hob; simp only [renO]; exact hob
      | box cs =>
        rw [ho] at hob
        obtain ⟨b,vals,ty,e1,e2,e3,e4,e5⟩:=hob
        simp only [renO]
        exact ⟨b,vals,ty,e1,e2,ARs_ren hren hU _ _ e3,e4,e5⟩
      | mp Q => rw [ho] at hob; simp only [renO]; exact hob
      | arr g e s m cs =>
        rw [ho] at hob
        obtain ⟨xs,F',e1,e2,e3⟩:=hob
        simp only [renO]
        exact ⟨xs,F',e1,Rs_mono hU (fun _ _ => rfl) _ _ _ e2 (fun _ _ => rfl),e3⟩
  · simp only [Fs'] at hb ⊢
    cases hn:oldOf inv n with
    | none => rw [hn] at hb; cases hb
    | some o =>
      rw [hn] at hb
      cases hn':oldOf inv n' with
      | none => simp
      | some o' => exact h.dis o o' (fun e => hne (oldOf_inj h2 n n' o hn (e ▸ hn'))) b hb
  · simp only [Fs']
    cases hn:oldOf inv n with
    | none => simp
    | some o => exact h.nd o
  · simp only [Fs'] at hb
    cases hn:oldOf inv n with
    | none => rw [hn] at hb; cases hb
    | some o => rw [hn] at hb; exact h.own o b hb
end
theorem Wk_to {σ σ':AEnv} (keep:List Nat) (inv:List (Nat × Nat)) (h1:distinct (inv.map (·.1)) = true) (h2:distinct (inv.map (·.2)) = true) (h:nrm keep inv σ = σ'):Wk σ σ':=h ▸ Wk_nrm h1 h2
def Back {α:Type} (Inv:α → Prop) (st:α → AEnv) (μ:α → Nat) (a:α) (σ':AEnv) (_:Hold Inv) (_:Hold st) (_:Hold μ) (_:Hold a):Prop:=∃ b,Inv b ∧ μ b < μ a ∧ Wk σ' (st b)
theorem AWh_loop {P:Program} {N:Nat × Nat} {σ:AEnv} {K:AEx → AEnv → Prop} {hk:Hold K} {c:Code} {α:Type} (Inv:α → Prop) (st:α → AEnv) (μ:α → Nat) (a₀:α)
    (hw:Wk σ (st a₀)) (h₀:Inv a₀) (round:∀ a,Inv a → AW P N c (st a) (athen (fun σ' => Back Inv st μ a σ' ⟨⟩ ⟨⟩ ⟨⟩ ⟨⟩) K)):AWh P N (.loop c) σ K hk:=by
  unfold AWh
  refine AW_loop (fun n σ => ∃ a,Inv a ∧ n = μ a ∧ σ = st a) hw ⟨a₀,h₀,rfl,rfl⟩ ?_
  rintro n _ ⟨a,ha,rfl,rfl⟩
  refine (round a ha).mono (fun e σ' hk => ?_)
  cases e with
  | normal =>
    obtain ⟨b,h1,h2,h3⟩:=hk
    exact ⟨μ b,st b,h2,h3,b,h1,rfl,rfl⟩
  | exit id => exact hk
  | ret => exact hk
theorem Back_of {α:Type} {Inv:α → Prop} {st:α → AEnv} {μ:α → Nat} {a:α} {σ':AEnv} {h1:Hold Inv} {h2:Hold st} {h3:Hold μ} {h4:Hold a} (b:α) (keep:List Nat) (inv:List (Nat × Nat))
    (hd1:distinct (inv.map (·.1)) = true) (hd2:distinct (inv.map (·.2)) = true) (hst:nrm keep inv σ' = st b) (hI:Inv b) (hμ:μ b < μ a):Back Inv st μ a σ' h1 h2 h3 h4 :=
  ⟨b,hI,hμ,Wk_to keep inv hd1 hd2 hst⟩
theorem wrap64 {x:Int} (h:-9223372036854775808 ≤ x) (h':x < 9223372036854775808):IntKind.i64.wrap x = x:=by
  simp only [IntKind.wrap,IntKind.bits,IntKind.signed]
  simp
  split <;> omega
attribute [simp] nrm renA renAs renO newOf
attribute [irreducible] Back
end Am
