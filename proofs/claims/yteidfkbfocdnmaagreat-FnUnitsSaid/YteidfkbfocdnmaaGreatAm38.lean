/- A result's parts given up: looked at alone,or their inner parts looked at alone. No condition. -/
import Derived.Test.YteidfkbfocdnmaaGreatAm37
set_option linter.unusedSimpArgs false
set_option linter.unusedVariables false
set_option linter.unnecessarySimpa false
set_option linter.unusedSectionVars false
namespace Am
open Go
def wkP:Nat → PV → PV
  | 0,p => p
  | 1,p => frz p
  | _,.ow e s n cs => .ow e s n (frzs cs)
  | _,p => p
def wkPs:List Nat → List PV → List PV
  | m :: ms,p :: ps => wkP m p :: wkPs ms ps
  | _,ps => ps
def wkC:List Nat → CV → CV
  | ms,.agg ps => .agg (wkPs ms ps)
  | [m],.v p => .v (wkP m p)
  | _,c => c
def wkCs:List (List Nat) → List CV → List CV
  | m :: ms,c :: cs => wkC m c :: wkCs ms cs
  | _,cs => cs
def wkR:List (List Nat) → CV → CV
  | ms,.tup xs => .tup (wkCs ms xs)
  | ms,c => wkC (ms.headD []) c
theorem R_wk {w:World} {U:Nat → Prop} (m:Nat) (p:PV) (v:Value) (F:List Nat) (h:R w U p v F) (hn:F.Nodup) :
    ∃ F':List Nat,F'.Sublist F ∧ ∀ U':Nat → Prop,(∀ k,U k → U' k) → (∀ k,k ∈ F → k ∉ F' → U' k) → R w U' (wkP m p) v F':=by
  have keep:∃ F':List Nat,F'.Sublist F ∧ ∀ U':Nat → Prop,(∀ k,U k → U' k) → (∀ k,k ∈ F → k ∉ F' → U' k) → R w U' p v F' :=
    ⟨F,List.Sublist.refl F,fun U' hU _ => R_mono hU (fun _ _ => rfl) p v F h (fun _ _ => rfl)⟩
  match m,p,h with
  | 0,p,h => exact keep
  | 1,p,h => exact ⟨[],List.nil_sublist _,fun U' hU hF => R_frz hU p v F h (fun k hk => hF k hk (by simp))⟩
  | m + 2,.ow e s n cs,h =>
    simp only [R] at h
    obtain ⟨xs,F0,h1,h2,rfl⟩:=h
    refine ⟨v.ownBlock.toList,List.sublist_append_left _ _,fun U' hU hF => ?_⟩
    show R w U' (.ow e s n (frzs cs)) v _
    simp only [R]
    refine ⟨xs,[],h1,Rs_frz hU cs xs F0 h2 (fun k hk => hF k (List.mem_append_right _ hk) fun hk2 => ?_),by simp⟩
    exact (List.nodup_append.1 hn).2.2 k hk2 k hk rfl
  | m + 2,.int _ _,h => exact keep
  | m + 2,.bool _,h => exact keep
  | m + 2,.str _,h => exact keep
  | m + 2,.im _ _,h => exact keep
  | m + 2,.any,h => exact keep
  | m + 2,.tk _,h => exact keep
theorem Rs_wk {w:World} {U:Nat → Prop}:∀ (ms:List Nat) (ps:List PV) (vs:List Value) (F:List Nat),Rs w U ps vs F → F.Nodup →
    ∃ F':List Nat,F'.Sublist F ∧ ∀ U':Nat → Prop,(∀ k,U k → U' k) → (∀ k,k ∈ F → k ∉ F' → U' k) → Rs w U' (wkPs ms ps) vs F'
  | m :: ms,p :: ps,v :: vs,F,h,hn => by
    simp only [Rs] at h
    obtain ⟨F1,F2,h1,h2,rfl⟩:=h
    obtain ⟨n1,n2,n3⟩:=List.nodup_append.1 hn
    obtain ⟨G1,s1,g1⟩:=R_wk m p v F1 h1 n1
    obtain ⟨G2,s2,g2⟩:=Rs_wk ms ps vs F2 h2 n2
    refine ⟨G1 ++ G2,List.Sublist.append s1 s2,fun U' hU hF => ?_⟩
    simp only [wkPs,Rs]
    refine ⟨G1,G2,g1 U' hU fun k hk hk1 => hF k (List.mem_append_left _ hk) fun hm => ?_,g2 U' hU fun k hk hk1 => hF k (List.mem_append_right _ hk) fun hm => ?_,rfl⟩
    · rcases List.mem_append.1 hm with hm | hm
      · exact hk1 hm
      · exact n3 k hk k (s2.subset hm) rfl
    · rcases List.mem_append.1 hm with hm | hm
      · exact n3 k (s1.subset hm) k hk rfl
      · exact hk1 hm
  | [],ps,vs,F,h,hn => ⟨F,List.Sublist.refl F,fun U' hU _ => by
      have:wkPs [] ps = ps:=by cases ps <;> rfl
      rw [this]
      exact Rs_mono hU (fun _ _ => rfl) ps vs F h (fun _ _ => rfl)⟩
  | _ :: _,[],[],F,h,hn => ⟨F,List.Sublist.refl F,fun U' hU _ => Rs_mono hU (fun _ _ => rfl) [] [] F h (fun _ _ => rfl)⟩
  | _ :: _,_ :: _,[],_,h,_ => by simp only [Rs] at h
  | _ :: _,[],_ :: _,_,h,_ => by simp only [Rs] at h
theorem CR_wk {w:World} {U:Nat → Prop} (ms:List Nat) (c:CV) (v:Value) (F:List Nat) (h:CR w U c v F) (hn:F.Nodup) :
    ∃ F':List Nat,F'.Sublist F ∧ ∀ U':Nat → Prop,(∀ k,U k → U' k) → (∀ k,k ∈ F → k ∉ F' → U' k) → CR w U' (wkC ms c) v F':=by
  unfold wkC
  split
  · simp only [CR] at h
    obtain ⟨vs,rfl,h⟩:=h
    obtain ⟨G,s,g⟩:=Rs_wk _ _ _ _ h hn
    exact ⟨G,s,fun U' hU hF => by simp only [CR]; exact ⟨vs,rfl,g U' hU hF⟩⟩
  · simp only [CR] at h
    obtain ⟨G,s,g⟩:=R_wk _ _ _ _ h hn
    exact ⟨G,s,fun U' hU hF => by simp only [CR]; exact g U' hU hF⟩
  · exact ⟨F,List.Sublist.refl F,fun U' hU _ => CR_U hU _ _ _ h⟩
theorem CRs_wk {w:World} {U:Nat → Prop}:∀ (ms:List (List Nat)) (cs:List CV) (vs:List Value) (F:List Nat),CRs w U cs vs F → F.Nodup →
    ∃ F':List Nat,F'.Sublist F ∧ ∀ U':Nat → Prop,(∀ k,U k → U' k) → (∀ k,k ∈ F → k ∉ F' → U' k) → CRs w U' (wkCs ms cs) vs F'
  | m :: ms,c :: cs,v :: vs,F,h,hn => by
    simp only [CRs] at h
    obtain ⟨F1,F2,h1,h2,rfl⟩:=h
    obtain ⟨n1,n2,n3⟩:=List.nodup_append.1 hn
    obtain ⟨G1,s1,g1⟩:=CR_wk m c v F1 h1 n1
    obtain ⟨G2,s2,g2⟩:=CRs_wk ms cs vs F2 h2 n2
    refine ⟨G1 ++ G2,List.Sublist.append s1 s2,fun U' hU hF => ?_⟩
    simp only [wkCs,CRs]
    refine ⟨G1,G2,g1 U' hU fun k hk hk1 => hF k (List.mem_append_left _ hk) fun hm => ?_,g2 U' hU fun k hk hk1 => hF k (List.mem_append_right _ hk) fun hm => ?_,rfl⟩
    · rcases List.mem_append.1 hm with hm | hm
      · exact hk1 hm
      · exact n3 k hk k (s2.subset hm) rfl
    · rcases List.mem_append.1 hm with hm | hm
      · exact n3 k (s1.subset hm) k hk rfl
      · exact hk1 hm
  | [],cs,vs,F,h,hn => ⟨F,List.Sublist.refl F,fun U' hU _ => by
      have:wkCs [] cs = cs:=by cases cs <;> rfl
      rw [this]
      exact CRs_U hU cs vs F h⟩
  | _ :: _,[],[],F,h,hn => ⟨F,List.Sublist.refl F,fun U' hU _ => CRs_U hU [] [] F h⟩
  | _ :: _,_ :: _,[],_,h,_ => by simp only [CRs] at h
  | _ :: _,[],_ :: _,_,h,_ => by simp only [CRs] at h
theorem CR_wkR {w:World} {U:Nat → Prop} (ms:List (List Nat)) (c:CV) (v:Value) (F:List Nat) (h:CR w U c v F) (hn:F.Nodup) :
    ∃ F':List Nat,F'.Sublist F ∧ ∀ U':Nat → Prop,(∀ k,U k → U' k) → (∀ k,k ∈ F → k ∉ F' → U' k) → CR w U' (wkR ms c) v F':=by
  unfold wkR
  split
  · simp only [CR] at h
    obtain ⟨vs,rfl,h⟩:=h
    obtain ⟨G,s,g⟩:=CRs_wk _ _ _ _ h hn
    exact ⟨G,s,fun U' hU hF => by simp only [CR]; exact ⟨vs,rfl,g U' hU hF⟩⟩
  · exact CR_wk _ _ _ _ h hn
theorem FnW.wk {P:Program} {f:Nat} {args outs:List CV} {res:CV} (ms:List (List Nat)) (h:FnW P f args res outs):FnW P f args (wkR ms res) outs:=by
  refine ⟨h.fin,fun w V vals F h1 h2 h3 h4 => (h.call w V vals F h1 h2 h3 h4).mono ?_⟩
  rintro ex w' ⟨v,Fr,Fo,rfl,hg,hres,hout,hnd,hfr⟩
  obtain ⟨n1,n2,n3⟩:=List.nodup_append.1 hnd
  obtain ⟨G,s,g⟩:=CR_wkR ms res v Fr hres n1
  have hUU:∀ k,(k < w'.heap.size ∧ (V k ∨ w.heap.size ≤ k ∨ k ∈ F) ∧ k ∉ Fr ++ Fo) → (k < w'.heap.size ∧ (V k ∨ w.heap.size ≤ k ∨ k ∈ F) ∧ k ∉ G ++ Fo):=fun k hk => ⟨hk.1,hk.2.1,fun hm => hk.2.2 (by
    rcases List.mem_append.1 hm with hm | hm
    · exact List.mem_append_left _ (s.subset hm)
    · exact List.mem_append_right _ hm)⟩
  refine ⟨v,G,Fo,rfl,hg,g _ hUU fun k hk hkG => ?_,CRs_U hUU _ _ _ hout,?_,fun k hk => hfr k ?_⟩
  · have:=hfr k (List.mem_append_left _ hk)
    refine ⟨this.1,this.2.elim (fun h => .inr (.inl h)) (fun h => .inr (.inr h)),fun hm => ?_⟩
    rcases List.mem_append.1 hm with hm | hm
    · exact hkG hm
    · exact n3 k hk k hm rfl
  · exact List.nodup_append.2 ⟨n1.sublist s,n2,fun a ha b hb => n3 a (s.subset ha) b hb⟩
  · rcases List.mem_append.1 hk with hk | hk
    · exact List.mem_append_left _ (s.subset hk)
    · exact List.mem_append_right _ hk
mutual
theorem frz_frz:∀ p:PV,frz (frz p) = frz p
  | .int _ _ => rfl
  | .bool _ => rfl
  | .str _ => rfl
  | .im n cs => by simp only [frz,frzs_frzs cs]
  | .ow _ _ n cs => by simp only [frz,frzs_frzs cs]
  | .any => rfl
  | .tk _ => rfl
theorem frzs_frzs:∀ ps:List PV,frzs (frzs ps) = frzs ps
  | [] => rfl
  | p :: ps => by simp only [frzs,frz_frz p,frzs_frzs ps]
end
theorem flat_frzO {α:Type} [CelO α] (xs:List α):frzs (flat xs) = flat xs:=by rw [← flatO_frz,frzs_frzs]
end Am
