/- What is handed over,read by the claim's own reader,is data as trees have it. No condition. -/
import Derived.Test.YtjbbhccphedkfaaGreatAm23
import Derived.ProofKit
set_option linter.unusedSimpArgs false
set_option linter.unusedVariables false
set_option linter.unnecessarySimpa false
set_option linter.unusedSectionVars false
namespace Am
open Go
mutual
inductive Sh (T:Ty):Nat → List PV → Prop
  | int {t:Nat} {i:TyI} {k:IntKind} {n:Int} (h:T.lookup t = some i) (hk:i.k = .int k) (hn:k.min ≤ n ∧ n ≤ k.max):Sh T t [.int k n]
  | bool {t:Nat} {i:TyI} {b:Bool} (h:T.lookup t = some i) (hk:i.k = .bool):Sh T t [.bool b]
  | str {t:Nat} {i:TyI} {s:ByteArray} (h:T.lookup t = some i) (hk:i.k = .str) (hs:s.size ≤ 9223372036854775807):Sh T t [.str s]
  | slice {t e:Nat} {i:TyI} {xss:List (List PV)} (h:T.lookup t = some i) (hk:i.k = .slice e) (hn:xss.length ≤ 9223372036854775807) (hx:∀ x,x ∈ xss → Sh T e x):Sh T t [.im xss.length xss.flatten]
  | struct {t:Nat} {i:TyI} {fs:List (Nat × Nat)} {xs:List PV} (h:T.lookup t = some i) (hk:i.k = .struct fs) (hx:ShL T fs xs):Sh T t xs
inductive ShL (T:Ty):List (Nat × Nat) → List PV → Prop
  | nil:ShL T [] []
  | cons {off ft:Nat} {fs:List (Nat × Nat)} {xs ys:List PV} (h:Sh T ft xs) (hr:ShL T fs ys):ShL T ((off,ft) :: fs) (xs ++ ys)
end
def tile (T:Ty):List (Nat × Nat) → Nat → Option Nat
  | [],pos => some pos
  | (off,ft) :: r,pos => if off = pos then match T.lookup ft with | some j => tile T r (pos + j.size) | none => none else none
def known (T:Ty):Nat → Nat → Bool
  | 0,_ => false
  | d + 1,t => match T.lookup t with
    | some ⟨.int _,_,_,_,_⟩ => true
    | some ⟨.bool,_,_,_,_⟩ => true
    | some ⟨.str,_,_,_,_⟩ => true
    | some ⟨.slice e,_,_,_,_⟩ => known T d e && (match T.lookup e with | some i => decide (0 < i.size) | none => false)
    | some ⟨.struct fs,size,_,_,_⟩ => tile T fs 0 == some size && fs.all fun f => known T d f.2
    | _ => false
theorem mapM_opt {α β:Type} {f:α → Option β}:∀ {l:List α} {r:List β},l.mapM f = some r → r.length = l.length ∧ ∀ (i:Nat) (x:α),l[i]? = some x → ∃ y,r[i]? = some y ∧ f x = some y
  | [],r,h => by simp at h; subst h; simp
  | a :: l,r,h => by
    rw [List.mapM_cons] at h
    cases hf:f a with
    | none => rw [hf] at h; simp at h
    | some b =>
      cases hl:l.mapM f with
      | none => rw [hf,hl] at h; simp at h
      | some bs =>
        rw [hf,hl] at h
        simp at h
        subst h
        obtain ⟨h1,h2⟩:=mapM_opt hl
        refine ⟨by simp [h1],fun i x hx => ?_⟩
        cases i with
        | zero => simp at hx; subst hx; exact ⟨b,rfl,hf⟩
        | succ i => simpa using h2 i x (by simpa using hx)
section
variable {P:Program} {T:Ty} {w:World}
theorem cells?_spec {a:Addr} {n:Nat} {xs:List Value} (h:w.cells? 0 a n = some xs):xs.length = n ∧ (0 < n → a.spot = none ∧ a.block < w.heap.size) ∧ memAt w a.block a.off xs ∨ n = 0 ∧ xs = []:=by
  unfold World.cells? at h
  rw [if_pos (Nat.zero_le _)] at h
  obtain ⟨h1,h2⟩:=mapM_opt h
  rw [List.length_range] at h1
  cases n with
  | zero => right; exact ⟨rfl,by simpa using h1⟩
  | succ n =>
    left
    have h0:=h2 0 0 (by simp)
    obtain ⟨y,_,hy⟩:=h0
    have ha0:a.add 0 = a:=by simp [Addr.add]
    rw [ha0] at hy
    have hsp:a.spot = none ∧ a.block < w.heap.size:=by
      unfold World.cell? at hy
      split at hy
      · rename_i c _ _ hh
        refine ⟨?_,(Array.getElem?_eq_some_iff.1 hh).1⟩
        cases hs:a.spot with
        | none => rfl
        | some x => rw [hs] at hy; simp at hy
      · cases hy
    refine ⟨h1,fun _ => hsp,fun j u hu => ?_⟩
    have hj:j < n + 1:=by
      have:=(List.getElem?_eq_some_iff.1 hu).1
      omega
    obtain ⟨y',hy1,hy2⟩:=h2 j j (by simp [hj])
    rw [hu] at hy1
    cases hy1
    obtain ⟨b,o,sp⟩:=a
    simp only at hsp
    obtain ⟨rfl,_⟩:=hsp
    rwa [addr_add] at hy2
theorem memAt_append {b off:Nat} {xs ys:List Value} (h1:memAt w b off xs) (h2:memAt w b (off + xs.length) ys):memAt w b off (xs ++ ys):=by
  intro j u hu
  by_cases hj:j < xs.length
  · rw [List.getElem?_append_left hj] at hu; exact h1 j u hu
  · rw [List.getElem?_append_right (by omega)] at hu
    have:=h2 (j - xs.length) u hu
    rwa [show off + xs.length + (j - xs.length) = off + j by omega] at this
def VV (w:World) (k:Nat):Prop:=k < w.heap.size
theorem Rs_nil {U:Nat → Prop}:Rs w U [] [] []:=by simp [Rs]
theorem Rs_app {U:Nat → Prop}:∀ {ps qs:List PV} {vs us:List Value},Rs w U ps vs [] → Rs w U qs us [] → Rs w U (ps ++ qs) (vs ++ us) []
  | [],qs,[],us,_,h => by simpa using h
  | p :: ps,qs,v :: vs,us,h,h' => by
    simp only [Rs,List.cons_append] at h ⊢
    obtain ⟨F1,F2,h1,h2,hF⟩:=h
    obtain ⟨rfl,rfl⟩:=List.append_eq_nil_iff.1 hF.symm
    exact ⟨[],[],h1,Rs_app h2 h',rfl⟩
  | [],_,_ :: _,_,h,_ => by simp only [Rs] at h
  | _ :: _,_,[],_,h,_ => by simp only [Rs] at h
variable {H:Type} {enc:TypeId × Value → H} {spare:Nat → Bool} {held:Bool}
theorem cellsOf_eq {t:Nat} {i:TyI} (h:TyM P t i):P.cellsOf t = i.size:=by
  obtain ⟨ti,z,hi,h1,_⟩:=h.info
  simp [Program.cellsOf,hi,h1]
theorem drop_take_split {α:Type} (cs:List α) (a b:Nat):(cs.drop a).take b ++ cs.drop (a + b) = cs.drop a:=by
  rw [show a + b = a + b from rfl,← List.drop_drop]
  exact List.take_append_drop b (cs.drop a)
theorem elems_Rs {e:Nat} {a:Addr} {k:Nat} {R1:List Value → Prop} (hk:0 < k) (hR:∀ xs,R1 xs → ∃ ps,Sh T e ps ∧ Rs w (VV w) ps xs []) :
    ∀ (n i0:Nat),(∀ i,i < n → ∃ xs,w.cells? 0 (a.add ((i0 + i) * k)) k = some xs ∧ R1 xs) →
    ∃ (pss:List (List PV)) (vs:List Value),pss.length = n ∧ (∀ p,p ∈ pss → Sh T e p) ∧ Rs w (VV w) pss.flatten vs [] ∧ vs.length = n * k ∧ (0 < n → a.block < w.heap.size ∧ (i0 = 0 → a.spot = none) ∧ memAt w a.block (a.off + i0 * k) vs)
  | 0,i0,_ => ⟨[],[],rfl,by simp,by simp [Rs],by simp,by simp⟩
  | n + 1,i0,h => by
    obtain ⟨xs,hxs,hr⟩:=h 0 (by omega)
    rw [Nat.add_zero] at hxs
    obtain ⟨ps,hps,hrs⟩:=hR xs hr
    obtain ⟨pss,vs,h1,h2,h3,h4,h5⟩:=elems_Rs hk hR n (i0 + 1) (fun i hi => by
      have:=h (i + 1) (by omega)
      rwa [show i0 + (i + 1) = i0 + 1 + i by omega] at this)
    rcases cells?_spec hxs with ⟨hl,hsp,hm⟩ | ⟨hz,_⟩
    · have hblk:(a.add (i0 * k)).block = a.block:=by unfold Addr.add; split <;> rfl
      have hoff:(a.add (i0 * k)).off = a.off + i0 * k:=by unfold Addr.add; split <;> simp_all
      rw [hblk,hoff] at hm
      refine ⟨ps :: pss,xs ++ vs,by simp [h1],?_,by rw [List.flatten_cons]; exact Rs_app hrs h3,by rw [List.length_append,hl,h4]; rw [Nat.succ_mul]; omega,fun _ => ⟨hblk ▸ (hsp hk).2,fun e0 => ?_,?_⟩⟩
      · intro p hp
        rcases List.mem_cons.1 hp with rfl | hp
        · exact hps
        · exact h2 p hp
      · have:=(hsp hk).1
        subst e0
        rw [Nat.zero_mul] at this
        have e2:a.add 0 = a:=by simp [Addr.add]
        rwa [e2] at this
      · refine memAt_append hm ?_
        cases n with
        | zero =>
          have:vs = []:=List.length_eq_zero_iff.1 (by rw [h4]; simp)
          subst this
          intro j u hu; simp at hu
        | succ n =>
          have:=(h5 (by omega)).2.2
          rwa [hl,show a.off + i0 * k + k = a.off + (i0 + 1) * k by rw [Nat.succ_mul]; omega]
    · omega
theorem fields_Rs {cs:List Value} (g:Field → List Value) :
    ∀ (fields:List Field) (pos size:Nat),tile T (fields.map fun f => (f.offset,f.type)) pos = some size → size = cs.length →
    (∀ fd,fd ∈ fields → g fd = (cs.drop fd.offset).take (P.cellsOf fd.type)) → (∀ fd i,fd ∈ fields → T.lookup fd.type = some i → P.cellsOf fd.type = i.size) →
    (∀ fd,fd ∈ fields → ∃ ps,Sh T fd.type ps ∧ Rs w (VV w) ps (g fd) []) → ∃ ps,ShL T (fields.map fun f => (f.offset,f.type)) ps ∧ Rs w (VV w) ps (cs.drop pos) []
  | [],pos,size,ht,hs,_,_,_ => by
    simp only [List.map_nil,tile,Option.some.injEq] at ht
    refine ⟨[],.nil,?_⟩
    rw [ht,hs,List.drop_length]
    exact Rs_nil
  | fd :: fields,pos,size,ht,hs,hg,hc,hf => by
    simp only [List.map_cons,tile] at ht
    split at ht
    · rename_i hoff
      split at ht
      · rename_i j hj
        obtain ⟨ps,h1,h2⟩:=hf fd (by simp)
        obtain ⟨qs,h3,h4⟩:=fields_Rs g fields (pos + j.size) size ht hs (fun x hx => hg x (by simp [hx])) (fun x i hx => hc x i (by simp [hx])) (fun x hx => hf x (by simp [hx]))
        rw [hg fd (by simp),hoff,hc fd j (by simp) hj] at h2
        refine ⟨ps ++ qs,by rw [List.map_cons]; exact .cons h1 h3,?_⟩
        rw [← drop_take_split cs pos j.size]
        exact Rs_app h2 h4
      · cases ht
    · cases ht
theorem trod_Sh (hT:TyOK P T):∀ (fuel d t:Nat) (cs:List Value) (x:DataW H × List MemPlace),known T d t = true → DataW.trod enc P w 0 spare held fuel t cs = some x →
    ∃ ps,Sh T t ps ∧ Rs w (VV w) ps cs []:=by
  intro fuel
  induction fuel with
  | zero => intro d t cs x _ h; simp [DataW.trod] at h
  | succ fuel ih =>
    intro d t cs x hk h
    cases d with
    | zero => simp [known] at hk
    | succ d =>
      simp only [known] at hk
      split at hk
      · -- an integer
        rename_i k z1 z2 z3 z4 hl
        have hu:=(hT.m hl).int rfl
        unfold DataW.trod at h
        rw [hu] at h
        split at h <;> rename_i e1 <;> first | cases e1 | skip
        · rename_i k' n e2
          split at h
          · rename_i hc
            obtain ⟨rfl,hwf⟩:=hc
            simp only [Lit.wf,Bool.and_eq_true,decide_eq_true_eq] at hwf
            exact ⟨[.int _ _],.int hl rfl hwf,by simp [Rs,R]⟩
          · cases h
        all_goals first | (cases h) | (rename_i e2 e3; simp at e3) | skip
      · rename_i z1 z2 z3 z4 hl
        have hu:=(hT.m hl).bool rfl
        unfold DataW.trod at h
        rw [hu] at h
        split at h <;> rename_i e1 <;> first | cases e1 | skip
        · rename_i b
          exact ⟨[.bool b],.bool hl rfl,by simp [Rs,R]⟩
        all_goals first | (cases h) | (rename_i e2 e3; simp at e3) | skip
      · rename_i z1 z2 z3 z4 hl
        have hu:=(hT.m hl).str rfl
        unfold DataW.trod at h
        rw [hu] at h
        split at h <;> rename_i e1 <;> first | cases e1 | skip
        · split at h
          · rename_i hc
            exact ⟨[.str _],.str hl rfl hc,by simp [Rs,R]⟩
          · cases h
        all_goals first | (cases h) | (rename_i e2 e3; simp at e3) | skip
      · rename_i e z1 z2 z3 z4 hl
        have hu:=(hT.m hl).slice rfl
        rw [Bool.and_eq_true] at hk
        obtain ⟨hke,hsz⟩:=hk
        split at hsz
        · rename_i ie hle
          have hpos:=of_decide_eq_true hsz
          have hcz:=cellsOf_eq (hT.m hle)
          unfold DataW.trod at h
          rw [hu] at h
          split at h <;> rename_i e1 <;> first | cases e1 | skip
          · exact ⟨[.im 0 []],by simpa using Sh.slice (xss:=[]) hl rfl (by simp) (by simp),by simp [Rs,R]⟩
          · rename_i a len cap
            simp only at h
            split at h
            · rename_i hc
              obtain ⟨_,hlc,hcap⟩:=hc
              cases he:(List.range len).mapM (fun i => (w.cells? 0 (a.add (i * P.cellsOf e)) (P.cellsOf e)).bind (DataW.trod enc P w 0 spare held fuel e)) with
              | none => rw [he] at h; simp at h
              | some elems =>
                obtain ⟨g1,g2⟩:=mapM_opt he
                obtain ⟨pss,vs,h1,h2,h3,h4,h5⟩:=elems_Rs (T:=T) (w:=w) (e:=e) (a:=a) (k:=P.cellsOf e) (R1:=fun xs => ∃ y,DataW.trod enc P w 0 spare held fuel e xs = some y)
                  (by rw [hcz]; exact hpos) (fun xs ⟨y,hy⟩ => ih d e xs y hke hy) len 0 (fun i hi => by
                    obtain ⟨y,_,hy⟩:=g2 i i (by simp [hi])
                    rw [Nat.zero_add]
                    cases hcs:w.cells? 0 (a.add (i * P.cellsOf e)) (P.cellsOf e) with
                    | none => rw [hcs] at hy; simp at hy
                    | some xs => rw [hcs] at hy; exact ⟨xs,rfl,y,hy⟩)
                refine ⟨[.im pss.length pss.flatten],.slice hl rfl (by rw [h1]; exact Nat.le_trans hlc hcap) h2,?_⟩
                simp only [Rs,R]
                refine ⟨[],[],⟨rfl,some a,cap,by rw [h1],by rw [h1]; exact hlc,?_⟩,rfl,rfl⟩
                cases len with
                | zero =>
                  left
                  rw [List.length_eq_zero_iff.1 h1]
                  rfl
                | succ n =>
                  right
                  obtain ⟨g3,g4,g5⟩:=h5 (by omega)
                  rw [Nat.zero_mul,Nat.add_zero] at g5
                  refine ⟨a.block,a.off,vs,?_,g3,g5,h3⟩
                  obtain ⟨b,o,sp⟩:=a
                  have:=g4 rfl
                  simp only at this
                  rw [this]
            · cases h
          all_goals first | (cases h) | (rename_i e2 e3; simp at e3) | skip
        · cases hsz
      · rename_i fs size z2 z3 z4 hl
        obtain ⟨fields,hu,hfs⟩:=(hT.m hl).struct rfl
        rw [Bool.and_eq_true,List.all_eq_true] at hk
        obtain ⟨htile,hkf⟩:=hk
        replace hfs:(fields.toList.map fun f => (f.offset,f.type)) = fs:=hfs
        have key:DataW.trod enc P w 0 spare held (fuel + 1) t cs = if cs.length = P.cellsOf t then (fields.toList.mapM fun f => DataW.trod enc P w 0 spare held fuel f.type ((cs.drop f.offset).take (P.cellsOf f.type))).map fun xs => (.agg (xs.map (·.1)),xs.flatMap (·.2)) else none:=by
          simp [DataW.trod,hu]
        rw [key] at h
        split at h
        · rename_i hc
          rw [cellsOf_eq (hT.m hl)] at hc
          replace hc:cs.length = size:=hc
          cases he:fields.toList.mapM (fun f => DataW.trod enc P w 0 spare held fuel f.type ((cs.drop f.offset).take (P.cellsOf f.type))) with
          | none => rw [he] at h; simp at h
          | some xs =>
            obtain ⟨g1,g2⟩:=mapM_opt he
            have htile':tile T (fields.toList.map fun f => (f.offset,f.type)) 0 = some size:=by rw [hfs]; simpa using htile
            obtain ⟨ps,h1,h2⟩:=fields_Rs (P:=P) (w:=w) (T:=T) (cs:=cs) (fun fd => (cs.drop fd.offset).take (P.cellsOf fd.type)) fields.toList 0 size htile' hc.symm (fun _ _ => rfl)
              (fun fd i hfd hi => cellsOf_eq (hT.m hi)) (fun fd hfd => by
                obtain ⟨j,hj⟩:=List.mem_iff_getElem?.1 hfd
                obtain ⟨y,_,hy⟩:=g2 j fd hj
                exact ih d fd.type _ y (hkf (fd.offset,fd.type) (by rw [← hfs]; exact List.mem_map.2 ⟨fd,hfd,rfl⟩)) hy)
            rw [hfs] at h1
            exact ⟨ps,.struct hl rfl h1,by simpa using h2⟩
        · cases h
      · cases hk
end
end Am
