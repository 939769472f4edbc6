/- A law's row,from its function's contract. No condition. -/
import Derived.Test.YtjbbhccphedkfaaGreatAm24
set_option linter.unusedSimpArgs false
set_option linter.unusedVariables false
set_option linter.unnecessarySimpa false
set_option linter.unusedSectionVars false
namespace Am
open Go Go.RowKit Go.ChangeShapes
def ShC (T:Ty) (t:Nat) (c:CV):Prop:=match T.lookup t with
  | some ⟨.struct _,_,_,_,_⟩ => ∃ ps,c = .agg ps ∧ Sh T t ps
  | _ => ∃ p,c = .v p ∧ Sh T t [p]
def ShCs (T:Ty):List Nat → List CV → Prop
  | [],[] => True
  | t :: ts,c :: cs => ShC T t c ∧ ShCs T ts cs
  | [],_ :: _ => False
  | _ :: _,[] => False
theorem Sh_int {T:Ty} {t:Nat} {k:IntKind} {z1 z2:Nat} {z3:List AV} {z4:Bool} {ps:List PV} (hl:T.lookup t = some ⟨.int k,z1,z2,z3,z4⟩) (h:Sh T t ps):∃ n:Int,ps = [.int k n] ∧ k.min ≤ n ∧ n ≤ k.max:=by
  cases h with
  | int h1 h2 h3 => rw [hl] at h1; cases h1; cases h2; exact ⟨_,rfl,h3⟩
  | bool h1 h2 => rw [hl] at h1; cases h1; cases h2
  | str h1 h2 => rw [hl] at h1; cases h1; cases h2
  | slice h1 h2 => rw [hl] at h1; cases h1; cases h2
  | struct h1 h2 => rw [hl] at h1; cases h1; cases h2
theorem Sh_str {T:Ty} {t:Nat} {z1 z2:Nat} {z3:List AV} {z4:Bool} {ps:List PV} (hl:T.lookup t = some ⟨.str,z1,z2,z3,z4⟩) (h:Sh T t ps):∃ s:ByteArray,ps = [.str s] ∧ s.size ≤ 9223372036854775807:=by
  cases h with
  | str h1 h2 h3 => exact ⟨_,rfl,h3⟩
  | int h1 h2 => rw [hl] at h1; cases h1; cases h2
  | bool h1 h2 => rw [hl] at h1; cases h1; cases h2
  | slice h1 h2 => rw [hl] at h1; cases h1; cases h2
  | struct h1 h2 => rw [hl] at h1; cases h1; cases h2
theorem Sh_slice {T:Ty} {t e:Nat} {z1 z2:Nat} {z3:List AV} {z4:Bool} {ps:List PV} (hl:T.lookup t = some ⟨.slice e,z1,z2,z3,z4⟩) (h:Sh T t ps) :
    ∃ xss:List (List PV),ps = [.im xss.length xss.flatten] ∧ xss.length ≤ 9223372036854775807 ∧ ∀ x,x ∈ xss → Sh T e x:=by
  cases h with
  | slice h1 h2 h3 h4 => rw [hl] at h1; cases h1; cases h2; exact ⟨_,rfl,h3,h4⟩
  | int h1 h2 => rw [hl] at h1; cases h1; cases h2
  | bool h1 h2 => rw [hl] at h1; cases h1; cases h2
  | str h1 h2 => rw [hl] at h1; cases h1; cases h2
  | struct h1 h2 => rw [hl] at h1; cases h1; cases h2
section
variable {H:Type} {enc:TypeId × Value → H} {P:Program} {T:Ty} {W W':World}
theorem okWide_one {base t:Nat} {v:Value} (h:Value.okWide P W .any base t v) (hs:∀ fs,P.underlying t ≠ some (.struct fs)) (hk:∃ d,P.underlying t = some d ∧ (d = .bool ∨ (∃ k,d = .int k) ∨ d = .string ∨ ∃ e,d = .slice e)):v.cells = #[v]:=by
  cases v with
  | agg cs =>
    exfalso
    obtain ⟨d,hd,hk⟩:=hk
    rcases hk with rfl | ⟨k,rfl⟩ | rfl | ⟨e,rfl⟩ <;> simp [Value.okWide,hd,Cell.okWide,Cell.ok] at h
  | _ => rfl
theorem Sh_one {t:Nat} {ps:List PV} (h:Sh T t ps) (hk:∀ i fs,T.lookup t = some i → i.k ≠ .struct fs):∃ p,ps = [p]:=by
  cases h with
  | struct h1 h2 _ => exact absurd h2 (hk _ _ h1)
  | _ => exact ⟨_,rfl⟩
theorem Sh_und (hT:TyOK P T) {t:Nat} {ps:List PV} (h:Sh T t ps) (hk:∀ i fs,T.lookup t = some i → i.k ≠ .struct fs) :
    (∀ fs,P.underlying t ≠ some (.struct fs)) ∧ ∃ d,P.underlying t = some d ∧ (d = .bool ∨ (∃ k,d = .int k) ∨ d = .string ∨ ∃ e,d = .slice e):=by
  cases h with
  | struct h1 h2 _ => exact absurd h2 (hk _ _ h1)
  | int h1 h2 _ => have:=(hT.m h1).int h2; exact ⟨fun fs e => (by rw [this] at e; cases e),_,this,.inr (.inl ⟨_,rfl⟩)⟩
  | bool h1 h2 => have:=(hT.m h1).bool h2; exact ⟨fun fs e => (by rw [this] at e; cases e),_,this,.inl rfl⟩
  | str h1 h2 _ => have:=(hT.m h1).str h2; exact ⟨fun fs e => (by rw [this] at e; cases e),_,this,.inr (.inr (.inl rfl))⟩
  | slice h1 h2 _ _ => have:=(hT.m h1).slice h2; exact ⟨fun fs e => (by rw [this] at e; cases e),_,this,.inr (.inr (.inr ⟨_,rfl⟩))⟩
theorem arg_CR (hT:TyOK P T) {t:Nat} {v:Value} {d:DataW H} {ps:List MemPlace} {base:Nat} (hkn:known T 20 t = true) (hok:Value.okWide P W .any base t v)
    (h:DataW.Trod enc P W 0 (fun _ => true) true t v d ps):∃ c,ShC T t c ∧ CR W (VV W) c v []:=by
  obtain ⟨fuel,h⟩:=h
  obtain ⟨qs,h1,h2⟩:=trod_Sh hT fuel 20 t _ _ hkn h
  unfold ShC
  cases hl:T.lookup t with
  | none => simp [known,hl] at hkn
  | some i =>
    obtain ⟨k,size,bytes,zero,eq⟩:=i
    by_cases hk:∃ fs,k = .struct fs
    · obtain ⟨fs,rfl⟩:=hk
      obtain ⟨fields,hu,_⟩:=(hT.m hl).struct rfl
      simp only [Value.okWide,hu] at hok
      obtain ⟨cs,rfl,_⟩:=hok
      refine ⟨.agg qs,⟨qs,rfl,h1⟩,?_⟩
      simp only [CR]
      exact ⟨cs,rfl,h2⟩
    · have hk':∀ i fs,T.lookup t = some i → i.k ≠ .struct fs:=fun i fs hi e => by rw [hl] at hi; cases hi; exact hk ⟨fs,e⟩
      obtain ⟨p,rfl⟩:=Sh_one h1 hk'
      obtain ⟨hu1,hu2⟩:=Sh_und hT h1 hk'
      have hone:=okWide_one hok hu1 hu2
      rw [hone] at h2
      refine ⟨.v p,?_,?_⟩
      · cases k with
        | struct fs => exact absurd ⟨fs,rfl⟩ hk
        | _ => exact ⟨p,rfl,h1⟩
      · simp only [CR]
        simp only [Rs] at h2
        obtain ⟨F1,F2,g1,g2,g3⟩:=h2
        obtain ⟨rfl,rfl⟩:=List.append_eq_nil_iff.1 g3.symm
        exact g1
theorem args_CRs (hT:TyOK P T):∀ {ts:List Nat} {vs:List Value} {ds:List (DataW H)} {ps:List MemPlace},(ts.all (known T 20)) = true →
    (∀ (j:Nat) t v,ts[j]? = some t → vs[j]? = some v → ∃ base,Value.okWide P W .any base t v) → DataW.TrodAll enc P W 0 (fun _ => true) true ts vs ds ps →
    ds.length = ts.length ∧ ∃ cs,ShCs T ts cs ∧ CRs W (VV W) cs vs []
  | [],vs,ds,ps,_,_,h => by
    obtain ⟨rfl,rfl,rfl⟩:=trodAll_nil h
    exact ⟨rfl,[],trivial,by simp [CRs]⟩
  | t :: ts,vs,ds,ps,hk,hok,h => by
    obtain ⟨v,vs',d,ds',p,q,rfl,rfl,rfl,h1,h2⟩:=trodAll_cons h
    simp only [List.all_cons,Bool.and_eq_true] at hk
    obtain ⟨base,hb⟩:=hok 0 t v rfl rfl
    obtain ⟨c,g1,g2⟩:=arg_CR hT hk.1 hb h1
    obtain ⟨g5,cs,g3,g4⟩:=args_CRs hT hk.2 (fun j t' v' hj hv => hok (j + 1) t' v' (by simpa using hj) (by simpa using hv)) h2
    exact ⟨by simp [g5],c :: cs,⟨g1,g3⟩,by simp only [CRs]; exact ⟨[],[],g2,g4,rfl⟩⟩
theorem below_trodAll (hl:laidOutB P = true) (hb:Below W.heap.size W W'):∀ {ts:List Nat} {vs:List Value} {ds:List (DataW H)} {ps:List MemPlace},
    (ts.all fun t => P.readableRec t && decide (t < P.types.size)) = true → DataW.TrodAll enc P W 0 (fun _ => true) true ts vs ds ps → (∀ x ∈ ps,x.block < W.heap.size) →
    DataW.TrodAll enc P W' 0 (fun b => decide (b < W.heap.size)) true ts vs ds ps
  | [],vs,ds,ps,_,h,_ => by
    obtain ⟨rfl,rfl,rfl⟩:=trodAll_nil h
    exact rfl
  | t :: ts,vs,ds,ps,hr,h,hlt => by
    obtain ⟨v,vs',d,ds',p,q,rfl,rfl,rfl,h1,h2⟩:=trodAll_cons h
    simp only [List.all_cons,Bool.and_eq_true,decide_eq_true_eq] at hr
    exact ⟨p,q,Below.trod hl hr.1.1 hr.1.2 h1 hb (fun x hx => hlt x (by simp [hx])),below_trodAll hl hb hr.2 h2 (fun x hx => hlt x (by simp [hx])),rfl⟩
theorem grown_kept (hg:W.grownBy W' none) (may:MemPlace → Prop):W.keptBut W' may:=by
  refine ⟨hg.os,hg.output,fun i hi => ?_⟩
  have:=hg.block i hi (by simp)
  rw [this]
  exact (World.keptBut_refl W may).2.2 i hi
theorem grown_below (hg:W.grownBy W' none):Below W.heap.size W W':=⟨hg.os,hg.tape,hg.output,hg.size,fun k hk => hg.block k hk (by simp)⟩
theorem lifted {C:Checked} {os:Os} {f:FuncId} {fn:Func} {s:ChangeSpec} {conds:List PathCond} {tb:Nat} (hT:TyOK C.prog T)
    (own:ownKnob C.prog.godebug = none) (hl:laidOutB C.prog = true) (started:os.Started) (noInit:C.prog.inits.idxOf? f = none) (hfn:C.prog.funcs[f]? = some fn)
    (hvars:s.vars = []) (hspec:∀ ds:List (DataW H),ds.length = fn.params.toList.length → s.fn H ds = { results:=[.lit (.bool true)],args:=ds,vars:=[] })
    (hres:fn.resultTypes = #[tb]) (htb:C.prog.underlying tb = some .bool) (hkn:(fn.params.toList.all (known T 20)) = true) (hrd:(fn.params.toList.all fun t => C.prog.readableRec t && decide (t < C.prog.types.size)) = true)
    (witness:∃ (w:World) (tape:Tape) (i:Input),w.os = os ∧ (w.forCall tape i).Shaped C.prog ∧ i.vars = [] ∧ Input.okWide C.prog (w.forCall tape i) .any w.heap.size f i ∧
      s.pre6 enc C.prog fn conds false (w.forCall tape i).memory i.args ∧ ({}:Assume).holds C.prog (lone (Frame.enter C.prog f i.args .normal) [] (w.forCall tape i)))
    (hf:∀ cs:List CV,ShCs T fn.params.toList cs → FnR C.prog f cs (.v (.bool true))) :
    ReturnsInHanded {} C os f .any (s.pre6 enc C.prog fn conds false) (s.post enc C.prog fn false true false false):=by
  refine returnsInHanded_of_change own started noInit hfn witness ?_
  intro W base args ds gs before hval hW hcnd _
  have hW':=hW
  obtain ⟨p,q,hA,hV,rfl,hfz,hnd⟩:=hW
  rw [hvars] at hV
  obtain ⟨rfl,rfl⟩:=trodVars_none hV
  obtain ⟨hlen,cs,hcs,hcr⟩:=args_CRs hT hkn (fun j t v hj hv => ⟨base,hval j t v (by simpa using hj) (by simpa using hv)⟩) hA
  have hcall:=(hf cs hcs).call W (VV W) args.toList [] hcr (by simp) (fun k hk => ⟨hk,by simp⟩) (by simp)
  rw [Array.toArray_toList] at hcall
  refine hcall.mono ?_
  rintro e W' ⟨v,Fr,Fo,rfl,hg0,hR,_,_,_⟩
  have hg:W.grownBy W' none:=⟨hg0.os,hg0.tape.1,hg0.output,hg0.size,fun k hk _ => hg0.block k hk (by simp)⟩
  simp only [CR,R] at hR
  obtain ⟨rfl,_⟩:=hR
  refine ⟨_,rfl,ds,[],p ++ [],[],p,[],hW',?_,?_,?_,grown_kept hg _,fun h => by cases h⟩
  · rw [List.append_nil,hspec ds hlen]
    simp only [hres]
    exact trodAll_mk1 (shut_bool htb true)
  · rw [List.append_nil,hspec ds hlen]
    exact below_trodAll hl (grown_below hg) hrd hA (fun x hx => hW'.lt x (by simp [hx]))
  · rw [hvars,List.append_nil,hspec ds hlen]
    exact rfl
end
end Am
