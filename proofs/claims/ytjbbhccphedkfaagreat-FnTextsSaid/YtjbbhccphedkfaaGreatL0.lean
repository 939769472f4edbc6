/- The machine in which the walks are done: sound against the model. No condition. -/
import Derived.Laws.AppendOwn
import Derived.Laws.OwnMore
import Derived.Orders
import Derived.Tactics
import Derived.Laws.StructEq
import Derived.Laws.MakeOwn
import Derived.Laws.Unary
import Derived.Laws.Concat
import Derived.Laws.Tables
import Derived.Laws.AppendOwnNone
import Derived.Laws.BytesString
set_option linter.unusedSimpArgs false
set_option linter.unusedVariables false
set_option linter.unnecessarySimpa false
set_option linter.unusedSectionVars false
namespace Am
open Go
inductive PV where
  | int (k:IntKind) (n:Int)
  | bool (b:Bool)
  | str (s:ByteArray)
  | im (n:Nat) (cs:List PV)
  | ow (ety esz n:Nat) (cs:List PV)
  | any
  | tk (v:Value)
  deriving Inhabited
def memAt (w:World) (b off:Nat) (xs:List Value):Prop:=∀ j u,xs[j]? = some u → w.cell? ⟨b,off + j,none⟩ = some u
mutual
def R (w:World) (U:Nat → Prop):PV → Value → List Nat → Prop
  | .int k n,v,F => v = .int k n ∧ F = []
  | .bool b,v,F => v = .bool b ∧ F = []
  | .str s,v,F => v = .string s ∧ F = []
  | .im n cs,v,F => F = [] ∧ ∃ a cap,v = .slice a n cap ∧ n ≤ cap ∧ (cs = [] ∨ ∃ b off xs,a = some ⟨b,off,none⟩ ∧ U b ∧ memAt w b off xs ∧ Rs w U cs xs [])
  | .ow ety esz n cs,v,F => ∃ xs F',w.ownsRow 0 ety esz v n xs ∧ Rs w U cs xs F' ∧ F = v.ownBlock.toList ++ F'
  | .any,v,F => (v.oneCell' = true ∧ v.cells = #[v]) ∧ F = []
  | .tk u,v,F => v = u ∧ (v.oneCell' = true ∧ v.cells = #[v]) ∧ F = []
def Rs (w:World) (U:Nat → Prop):List PV → List Value → List Nat → Prop
  | [],[],F => F = []
  | p :: ps,v :: vs,F => ∃ F1 F2,R w U p v F1 ∧ Rs w U ps vs F2 ∧ F = F1 ++ F2
  | [],_ :: _,_ => False
  | _ :: _,[],_ => False
end
mutual
def frz:PV → PV
  | .int k n => .int k n
  | .bool b => .bool b
  | .str s => .str s
  | .im n cs => .im n (frzs cs)
  | .ow _ _ n cs => .im n (frzs cs)
  | .any => .any
  | .tk v => .tk v
def frzs:List PV → List PV
  | [] => []
  | p :: ps => frz p :: frzs ps
end
theorem frzs_eq_map (l:List PV):frzs l = l.map frz:=by
  induction l with
  | nil => rfl
  | cons p l ih => simp [frzs,ih]
theorem memAt_mono {w w':World} {b off:Nat} {xs:List Value} (h:memAt w b off xs) (hb:w'.heap[b]? = w.heap[b]?):memAt w' b off xs :=
  fun j u hu => (World.cell?_of_block (w:=w) (w':=w') (a:=⟨b,off + j,none⟩) hb).trans (h j u hu)
theorem ownsRow_mono {w w':World} {e size n:Nat} {v:Value} {xs:List Value} (h:w.ownsRow 0 e size v n xs)
    (hb:∀ k,v.ownBlock = some k → w'.heap[k]? = w.heap[k]?):w'.ownsRow 0 e size v n xs:=by
  obtain ⟨h1,h2⟩:=h
  refine ⟨h1,?_⟩
  rcases h2 with h2 | ⟨g,cap,cur,hv,hg,hh,r⟩
  · exact Or.inl h2
  · exact Or.inr ⟨g,cap,cur,hv,hg,by rw [hb g (by rw [hv]; rfl)]; exact hh,r⟩
mutual
theorem R_mono {w w':World} {U U':Nat → Prop} (hU:∀ k,U k → U' k) (hh:∀ k,U k → w'.heap[k]? = w.heap[k]?) :
    ∀ (p:PV) (v:Value) (F:List Nat),R w U p v F → (∀ k,k ∈ F → w'.heap[k]? = w.heap[k]?) → R w' U' p v F
  | .int k n,v,F,h,_ => by simpa only [R] using h
  | .bool b,v,F,h,_ => by simpa only [R] using h
  | .str s,v,F,h,_ => by simpa only [R] using h
  | .im n cs,v,F,h,_ => by
    simp only [R] at h ⊢
    obtain ⟨hF,a,cap,hv,hn,hc⟩:=h
    refine ⟨hF,a,cap,hv,hn,?_⟩
    rcases hc with hc | ⟨b,off,xs,ha,hb,hm,hr⟩
    · exact .inl hc
    · exact .inr ⟨b,off,xs,ha,hU _ hb,memAt_mono hm (hh _ hb),Rs_mono hU hh cs xs [] hr (by simp)⟩
  | .ow ety esz n cs,v,F,h,hF => by
    simp only [R] at h ⊢
    obtain ⟨xs,F',ho,hr,rfl⟩:=h
    exact ⟨xs,F',ownsRow_mono ho (fun k hk => hF k (by simp [hk])),Rs_mono hU hh cs xs F' hr (fun k hk => hF k (by simp [hk])),rfl⟩
  | .any,v,F,h,_ => by simpa only [R] using h
  | .tk u,v,F,h,_ => by simpa only [R] using h
theorem Rs_mono {w w':World} {U U':Nat → Prop} (hU:∀ k,U k → U' k) (hh:∀ k,U k → w'.heap[k]? = w.heap[k]?) :
    ∀ (ps:List PV) (vs:List Value) (F:List Nat),Rs w U ps vs F → (∀ k,k ∈ F → w'.heap[k]? = w.heap[k]?) → Rs w' U' ps vs F
  | [],[],F,h,_ => by simpa only [Rs] using h
  | p :: ps,v :: vs,F,h,hF => by
    simp only [Rs] at h ⊢
    obtain ⟨F1,F2,h1,h2,rfl⟩:=h
    exact ⟨F1,F2,R_mono hU hh p v F1 h1 (fun k hk => hF k (by simp [hk])),Rs_mono hU hh ps vs F2 h2 (fun k hk => hF k (by simp [hk])),rfl⟩
  | [],_ :: _,F,h,_ => by simp only [Rs] at h
  | _ :: _,[],F,h,_ => by simp only [Rs] at h
end
mutual
theorem R_frz {w:World} {U U':Nat → Prop} (hU:∀ k,U k → U' k):∀ (p:PV) (v:Value) (F:List Nat),R w U p v F → (∀ k,k ∈ F → U' k) → R w U' (frz p) v []
  | .int k n,v,F,h,_ => by simp only [R,frz] at h ⊢; exact ⟨h.1,trivial⟩
  | .bool b,v,F,h,_ => by simp only [R,frz] at h ⊢; exact ⟨h.1,trivial⟩
  | .str s,v,F,h,_ => by simp only [R,frz] at h ⊢; exact ⟨h.1,trivial⟩
  | .im n cs,v,F,h,_ => by
    simp only [R,frz] at h ⊢
    obtain ⟨hF,a,cap,hv,hn,hc⟩:=h
    refine ⟨trivial,a,cap,hv,hn,?_⟩
    rcases hc with rfl | ⟨b,off,xs,ha,hb,hm,hr⟩
    · exact .inl rfl
    · exact .inr ⟨b,off,xs,ha,hU _ hb,hm,Rs_frz hU cs xs [] hr (by simp)⟩
  | .ow ety esz n cs,v,F,h,hF => by
    simp only [R,frz] at h ⊢
    obtain ⟨xs,F',ho,hr,rfl⟩:=h
    have hr':=Rs_frz hU cs xs F' hr (fun k hk => hF k (by simp [hk]))
    have ho':=ho
    obtain ⟨h1,h2⟩:=ho
    rcases h2 with ⟨rfl,rfl⟩ | ⟨g,cap,cur,rfl,hg,hh,hn,hm,hs,ht⟩
    · refine ⟨trivial,none,0,rfl,Nat.le_refl _,.inl ?_⟩
      have hx:xs = []:=List.eq_nil_of_length_eq_zero (by simpa using h1)
      subst hx
      cases cs with
      | nil => rfl
      | cons p cs => simp only [Rs] at hr
    · refine ⟨trivial,some ⟨g,0,none⟩,cap,rfl,hn,.inr ⟨g,0,xs,rfl,hF g (by simp [Value.ownBlock]),?_,hr'⟩⟩
      intro j u hu
      have:=ho'.cells (g:=g) rfl j u hu
      have hadd:(⟨g,0,none⟩:Addr).add j = ⟨g,j,none⟩:=by unfold Addr.add; split <;> simp_all
      rw [hadd] at this
      simpa using this
  | .any,v,F,h,_ => by simp only [R,frz] at h ⊢; exact ⟨h.1,trivial⟩
  | .tk u,v,F,h,_ => by simp only [R,frz] at h ⊢; exact ⟨h.1,h.2.1,trivial⟩
theorem Rs_frz {w:World} {U U':Nat → Prop} (hU:∀ k,U k → U' k):∀ (ps:List PV) (vs:List Value) (F:List Nat),Rs w U ps vs F → (∀ k,k ∈ F → U' k) → Rs w U' (frzs ps) vs []
  | [],[],F,h,_ => by simp only [Rs,frzs] at h ⊢
  | p :: ps,v :: vs,F,h,hF => by
    simp only [Rs,frzs] at h ⊢
    obtain ⟨F1,F2,h1,h2,rfl⟩:=h
    exact ⟨[],[],R_frz hU p v F1 h1 (fun k hk => hF k (by simp [hk])),Rs_frz hU ps vs F2 h2 (fun k hk => hF k (by simp [hk])),rfl⟩
  | [],_ :: _,F,h,_ => by simp only [Rs] at h
  | _ :: _,[],F,h,_ => by simp only [Rs] at h
end
theorem R_oneCell {w:World} {U:Nat → Prop} {p:PV} {v:Value} {F:List Nat} (h:R w U p v F):v.oneCell' = true ∧ v.cells = #[v]:=by
  cases p with
  | int k n => simp only [R] at h; obtain ⟨rfl,_⟩:=h; exact ⟨rfl,rfl⟩
  | bool b => simp only [R] at h; obtain ⟨rfl,_⟩:=h; exact ⟨rfl,rfl⟩
  | str s => simp only [R] at h; obtain ⟨rfl,_⟩:=h; exact ⟨rfl,rfl⟩
  | im n cs => simp only [R] at h; obtain ⟨_,a,cap,rfl,_⟩:=h; exact ⟨rfl,rfl⟩
  | ow ety esz n cs =>
    simp only [R] at h
    obtain ⟨xs,F',⟨_,ho⟩,_⟩:=h
    rcases ho with ⟨rfl,_⟩ | ⟨g,cap,cur,rfl,_⟩ <;> exact ⟨rfl,rfl⟩
  | any => simp only [R] at h; exact h.1
  | tk u => simp only [R] at h; exact h.2.1
theorem Rs_length {w:World} {U:Nat → Prop}:∀ (ps:List PV) (vs:List Value) (F:List Nat),Rs w U ps vs F → ps.length = vs.length
  | [],[],_,_ => rfl
  | p :: ps,v :: vs,F,h => by
    simp only [Rs] at h
    obtain ⟨F1,F2,_,h2,_⟩:=h
    simp [Rs_length ps vs F2 h2]
  | [],_ :: _,_,h => by simp only [Rs] at h
  | _ :: _,[],_,h => by simp only [Rs] at h
theorem Rs_append {w:World} {U:Nat → Prop}:∀ (ps qs:List PV) (vs us:List Value) (F G:List Nat),Rs w U ps vs F → Rs w U qs us G → Rs w U (ps ++ qs) (vs ++ us) (F ++ G)
  | [],qs,[],us,F,G,h,h' => by simp only [Rs] at h; subst h; simpa using h'
  | p :: ps,qs,v :: vs,us,F,G,h,h' => by
    simp only [Rs] at h
    obtain ⟨F1,F2,h1,h2,rfl⟩:=h
    simp only [List.cons_append,Rs]
    exact ⟨F1,F2 ++ G,h1,Rs_append ps qs vs us F2 G h2 h',by simp⟩
  | [],_,_ :: _,_,_,_,h,_ => by simp only [Rs] at h
  | _ :: _,_,[],_,_,_,h,_ => by simp only [Rs] at h
theorem Rs_split {w:World} {U:Nat → Prop}:∀ (n:Nat) (ps:List PV) (vs:List Value) (F:List Nat),Rs w U ps vs F →
    ∃ F1 F2,Rs w U (ps.take n) (vs.take n) F1 ∧ Rs w U (ps.drop n) (vs.drop n) F2 ∧ F = F1 ++ F2
  | 0,ps,vs,F,h => ⟨[],F,by simp [Rs],by simpa using h,by simp⟩
  | n + 1,[],[],F,h => ⟨[],F,by simp [Rs],by simpa using h,by simp⟩
  | n + 1,p :: ps,v :: vs,F,h => by
    simp only [Rs] at h
    obtain ⟨F1,F2,h1,h2,rfl⟩:=h
    obtain ⟨G1,G2,g1,g2,rfl⟩:=Rs_split n ps vs F2 h2
    exact ⟨F1 ++ G1,G2,by simp only [List.take_succ_cons,Rs]; exact ⟨F1,G1,h1,g1,rfl⟩,by simpa using g2,by simp⟩
  | _ + 1,[],_ :: _,_,h => by simp only [Rs] at h
  | _ + 1,_ :: _,[],_,h => by simp only [Rs] at h
theorem Rs_get {w:World} {U:Nat → Prop} {ps:List PV} {vs:List Value} {F:List Nat} (h:Rs w U ps vs F) {i:Nat} {p:PV} (hp:ps[i]? = some p) :
    ∃ v F',vs[i]? = some v ∧ R w U p v F' ∧ (∀ k,k ∈ F' → k ∈ F):=by
  induction ps generalizing vs F i with
  | nil => simp at hp
  | cons q ps ih =>
    cases vs with
    | nil => simp only [Rs] at h
    | cons v vs =>
      simp only [Rs] at h
      obtain ⟨F1,F2,h1,h2,rfl⟩:=h
      cases i with
      | zero => simp at hp; subst hp; exact ⟨v,F1,rfl,h1,by simp; exact fun k hk => .inl hk⟩
      | succ i =>
        obtain ⟨v',F',hv,hr,hF⟩:=ih h2 (by simpa using hp)
        exact ⟨v',F',by simpa using hv,hr,fun k hk => by simp [hF k hk]⟩
end Am
namespace Am
open Go
theorem viewStore_drawn {p:Program} {w:World} {at_:Addr} {u:TypeId} {k:Addr} {v:Value} {b:Bool} {r:World × List Addr} (h:World.viewStore p w at_ u k v b = .ok r):r.1.drawn = w.drawn:=by
  unfold World.viewStore at h
  simp only [bind,Except.bind,pure,Except.pure,throwThe,MonadExceptOf.throw,MonadExcept.throw] at h
  repeat' split at h
  all_goals first | (cases h; rfl) | cases h
theorem ask_drawn {α:Type}:∀ (a:Ask α) (w:World),w.drawn ≤ (w.ask a).2.drawn
  | .done a,w => by simp [World.ask]
  | .ask what range k,w => by
    simp only [World.ask]
    split
    · exact ask_drawn _ _
    · have h:=ask_drawn (k ((Question.extern what range).cut (w.tape w.drawn (Question.extern what range)))) { w with drawn:=w.drawn + 1 }
      exact Nat.le_trans (Nat.le_succ w.drawn) h
theorem sys_drawn (w:World) (c:Sys):w.drawn ≤ (w.sys c).2.drawn:=by
  unfold World.sys
  have h:=ask_drawn (Kernel.perform c w.os) w
  split
  · exact Nat.le_refl _
  · rename_i r os w' e
    rw [e] at h; exact h
theorem run_drawn {α:Type} {p:Program}:∀ {m:Sem α} {w w':World} {v:α},m.run p w = .ok v w' → w.drawn ≤ w'.drawn
  | .pure a,w,w',v,h => by simp only [Sem.run] at h; cases h; exact Nat.le_refl _
  | .load m a k,w,w',v,h => by
    simp only [Sem.run] at h
    split at h
    · exact run_drawn h
    · split at h
      · exact run_drawn h
      · cases h
  | .store m a v k,w,w',x,h => by
    cases v <;> simp only [Sem.run] at h <;> first | cases h | skip
    all_goals (split at h; · split at h; · cases h
                             · have:=run_drawn h; exact this
               · split at h
                 · rename_i e
                   have h1:=run_drawn h
                   unfold World.farStore at e
                   split at e
                   · split at e
                     · rename_i e2
                       have h2:=viewStore_drawn e2
                       cases e
                       simp only at h2
                       omega
                     · cases e
                   · cases e
                 · cases h)
  | .new o k,w,w',v,h => by simp only [Sem.run] at h; have h1:=run_drawn h; exact h1
  | .shape r k,w,w',v,h => by simp only [Sem.run] at h; exact run_drawn h
  | .freeze a n k,w,w',v,h => by
    simp only [Sem.run] at h
    have h1:=run_drawn h
    have:(w.freeze a n).drawn = w.drawn:=by unfold World.freeze; split <;> rfl
    omega
  | .frozen a k,w,w',v,h => by simp only [Sem.run] at h; exact run_drawn h
  | .getObj r k,w,w',v,h => by
    simp only [Sem.run] at h
    split at h
    · cases h
    · exact run_drawn h
    · cases h
  | .setObj r o k,w,w',v,h => by
    simp only [Sem.run] at h
    split at h
    · cases h
    · have:=run_drawn h; exact this
    · cases h
  | .choose q k,w,w',v,h => by
    simp only [Sem.run] at h
    split at h
    · exact run_drawn h
    · have h1:=run_drawn h
      exact Nat.le_trans (Nat.le_succ w.drawn) h1
  | .sys c k,w,w',v,h => by
    simp only [Sem.run] at h
    exact Nat.le_trans (sys_drawn w c) (run_drawn h)
  | .program k,w,w',v,h => by simp only [Sem.run] at h; exact run_drawn h
  | .mark m k,w,w',v,h => by simp only [Sem.run] at h; exact run_drawn h
  | .halt hh,w,w',v,h => by simp only [Sem.run] at h; cases h
inductive AV where
  | any
  | c (p:PV)
  | nil
  | agg (cs:List AV)
  | box (o off:Nat)
  | arr (o:Nat)
  | pa (o off:Nat)
  | inr (o g off:Nat)
  | pc (cs:List PV) (off:Nat)
  | tup (vs:List AV)
  | fn (f:Nat) (cap:List AV)
  | gd (b:Bool) (v:AV)
  | mp (o:Nat)
  deriving Inhabited
def dotV (a b:Int):Value:=.agg #[.int .i64 a,.int .i64 b]
def MapR (m:List (Int × Int × Int)) (ob:Obj):Prop :=
  ∃ es clock,ob = .map es clock ∧ es.toList.map (fun e => (e.key,e.val)) = m.map (fun x => (dotV x.1 x.2.1,Value.int .i64 x.2.2))
inductive MQ where
  | m (l:List (Int × Int × Int))
  | bs (l:List Int)
  deriving Inhabited
def MqR (w:World) (Q:MQ) (v:Value) (F:List Nat):Prop:=match Q with
  | .m l => ∃ b ob,v = .map (some b) ∧ w.heap[b]? = some ob ∧ MapR l ob ∧ F = [b]
  | .bs l => ∃ b cap cur e fz,v = .slice (some ⟨b,0,none⟩) l.length cap ∧ w.heap[b]? = some (.cells cur e fz) ∧ cur.size ≤ fz.1 ∧ l.length ≤ cur.size ∧ cur.toList.take l.length = l.map (Value.int .u8) ∧ F = [b]
inductive AObj where
  | none
  | dead
  | box (cs:List AV)
  | arr (g ety esz n:Nat) (cs:List PV)
  | mp (m:MQ)
  deriving Inhabited
structure AEnv where
  t:Nat → AV
  o:Nat → AObj
def isOw (cs:List PV) (i:Nat):Prop:=∃ e s n c,cs[i]? = some (.ow e s n c)
mutual
def AR (w:World) (U:Nat → Prop) (O:Nat → AObj) (ι:Nat → Value):AV → Value → Prop
  | .any,_ => True
  | .c p,v => R w U p v []
  | .nil,v => v = .slice none 0 0
  | .agg cs,v => ∃ vs,v = .agg vs ∧ ARs w U O ι cs vs.toList
  | .box o off,v => match O o with
    | .box _ => ∃ b,ι o = .pointer (some ⟨b,0,none⟩) ∧ v = .pointer (some ⟨b,off,none⟩)
    | .dead => True
    | _ => False
  | .arr o,v => match O o with
    | .arr _ _ _ _ _ => v = ι o
    | .dead => True
    | _ => False
  | .pa o off,v => match O o with
    | .arr _ _ _ _ _ => ∃ b,(ι o).ownBlock = some b ∧ v = .pointer (some ⟨b,off,none⟩)
    | .mp _ => ∃ b,(ι o).ownBlock = some b ∧ v = .pointer (some ⟨b,off,none⟩)
    | .dead => True
    | _ => False
  | .inr o g off,v => match O o with
    | .arr g' _ _ _ cs => g ≤ g' ∧ (g = g' → isOw cs off → ∃ b,(ι o).ownBlock = some b ∧ w.cell? ⟨b,off,none⟩ = some v)
    | .dead => True
    | _ => False
  | .pc cs off,v => ∃ b o0 xs,v = .pointer (some ⟨b,o0 + off,none⟩) ∧ U b ∧ memAt w b o0 xs ∧ Rs w U cs xs []
  | .tup vs,v => ∃ xs,v = .tuple xs ∧ ARs w U O ι vs xs.toList
  | .fn f cap,v => ∃ xs,v = .func (.func f) #[] xs ∧ ARs w U O ι cap xs.toList
  | .gd b x,v => (b = true → AR w U O ι x v) ∧ (b = false → v = undef)
  | .mp o,v => match O o with
    | .mp _ => v = ι o
    | .dead => True
    | _ => False
def ARs (w:World) (U:Nat → Prop) (O:Nat → AObj) (ι:Nat → Value):List AV → List Value → Prop
  | [],[] => True
  | a :: as,v :: vs => AR w U O ι a v ∧ ARs w U O ι as vs
  | [],_ :: _ => False
  | _ :: _,[] => False
end
def ObR (w:World) (U:Nat → Prop) (O:Nat → AObj) (ι:Nat → Value):AObj → Value → List Nat → Prop
  | .none,_,_ => True
  | .dead,_,F => F = []
  | .box cs,v,F => ∃ b vals ty,v = .pointer (some ⟨b,0,none⟩) ∧ w.heap[b]? = some (.cells vals ty (0,0)) ∧ ARs w U O ι cs vals.toList ∧ (∀ x ∈ vals.toList,x.oneCell' = true) ∧ F = [b]
  | .arr _ ety esz n cs,v,F => ∃ xs F',w.ownsRow 0 ety esz v n xs ∧ Rs w U cs xs F' ∧ F = v.ownBlock.toList ++ F'
  | .mp Q,v,F => MqR w Q v F
structure Ctx where
  w0:World          -- when the call began
  V:Nat → Prop      -- blocks that may be looked at as never written
  S:Nat → Prop      -- blocks of what was handed over
  N:Nat × Nat       -- from where slots are written; how many slots
  A:Nat → Value     -- what the slots below hold
def Un (C:Ctx) (w:World) (Fs:Nat → List Nat) (k:Nat):Prop:=k < w.heap.size ∧ (C.V k ∨ C.S k ∨ C.w0.heap.size ≤ k) ∧ ∀ o,k ∉ Fs o
def Tp (w w':World):Prop:=w'.tape = w.tape ∧ w.drawn ≤ w'.drawn
theorem Tp.trans {w w' w'':World} (h:Tp w w') (h':Tp w' w''):Tp w w'':=⟨h'.1.trans h.1,Nat.le_trans h.2 h'.2⟩
theorem Tp.refl (w:World):Tp w w:=⟨rfl,Nat.le_refl _⟩
structure Kept (C:Ctx) (w:World):Prop where
  os:w.os = C.w0.os
  tape:Tp C.w0 w
  output:w.output = C.w0.output
  size:C.w0.heap.size ≤ w.heap.size
  block:∀ k,k < C.w0.heap.size → ¬ C.S k → w.heap[k]? = C.w0.heap[k]?
structure Sim (C:Ctx) (σ:AEnv) (a:Act) (w:World) (ι:Nat → Value) (Fs:Nat → List Nat):Prop where
  kept:Kept C w
  tm:∀ i,AR w (Un C w Fs) σ.o ι (σ.t i) (a.tmps.getD i undef)
  ob:∀ o,ObR w (Un C w Fs) σ.o ι (σ.o o) (ι o) (Fs o)
  dis:∀ o o',o ≠ o' → ∀ b,b ∈ Fs o → b ∉ Fs o'
  nd:∀ o,(Fs o).Nodup
  own:∀ o b,b ∈ Fs o → b < w.heap.size ∧ (C.w0.heap.size ≤ b ∨ C.S b)
  df:a.defers = []
  sz:a.tmps.size = C.N.2
  kp:∀ i,i < C.N.1 → a.tmps.getD i undef = C.A i
theorem ARs_length {w:World} {U:Nat → Prop} {O:Nat → AObj} {ι:Nat → Value}:∀ (as:List AV) (vs:List Value),ARs w U O ι as vs → as.length = vs.length
  | [],[],_ => rfl
  | a :: as,v :: vs,h => by simp only [ARs] at h; simp [ARs_length as vs h.2]
  | [],_ :: _,h => by simp only [ARs] at h
  | _ :: _,[],h => by simp only [ARs] at h
theorem ARs_get {w:World} {U:Nat → Prop} {O:Nat → AObj} {ι:Nat → Value}:∀ {as:List AV} {vs:List Value},ARs w U O ι as vs → ∀ {i:Nat} {a:AV},as[i]? = some a → ∃ v,vs[i]? = some v ∧ AR w U O ι a v
  | [],[],_,i,a,ha => by simp at ha
  | a :: as,v :: vs,h,i,x,ha => by
    simp only [ARs] at h
    cases i with
    | zero => simp at ha; subst ha; exact ⟨v,rfl,h.1⟩
    | succ i => simpa using ARs_get h.2 (by simpa using ha)
  | [],_ :: _,h,_,_,_ => by simp only [ARs] at h
  | _ :: _,[],h,_,_,_ => by simp only [ARs] at h
theorem ARs_of_get {w:World} {U:Nat → Prop} {O:Nat → AObj} {ι:Nat → Value}:∀ {as:List AV} {vs:List Value},as.length = vs.length → (∀ (i:Nat) (a:AV) (v:Value),as[i]? = some a → vs[i]? = some v → AR w U O ι a v) → ARs w U O ι as vs
  | [],[],_,_ => by simp [ARs]
  | a :: as,v :: vs,hl,h => by
    simp only [ARs]
    exact ⟨h 0 a v rfl rfl,ARs_of_get (by simpa using hl) (fun i a' v' ha hv => h (i + 1) a' v' (by simpa using ha) (by simpa using hv))⟩
  | [],_ :: _,hl,_ => by simp at hl
  | _ :: _,[],hl,_ => by simp at hl
theorem ARs_take {w:World} {U:Nat → Prop} {O:Nat → AObj} {ι:Nat → Value} {as:List AV} {vs:List Value} (h:ARs w U O ι as vs) (n:Nat):ARs w U O ι (as.take n) (vs.take n) :=
  ARs_of_get (by simp [ARs_length _ _ h]) (fun i a v ha hv => by
    rw [List.getElem?_take] at ha hv
    split at ha
    · rename_i hi
      rw [if_pos hi] at hv
      obtain ⟨v',hv',hr⟩:=ARs_get h ha
      rw [hv] at hv'; cases hv'; exact hr
    · cases ha)
theorem ARs_drop {w:World} {U:Nat → Prop} {O:Nat → AObj} {ι:Nat → Value} {as:List AV} {vs:List Value} (h:ARs w U O ι as vs) (n:Nat):ARs w U O ι (as.drop n) (vs.drop n) :=
  ARs_of_get (by simp [ARs_length _ _ h]) (fun i a v ha hv => by
    rw [List.getElem?_drop] at ha hv
    obtain ⟨v',hv',hr⟩:=ARs_get h ha
    rw [hv] at hv'; cases hv'; exact hr)
theorem ARs_append {w:World} {U:Nat → Prop} {O:Nat → AObj} {ι:Nat → Value}:∀ {as bs:List AV} {vs us:List Value},ARs w U O ι as vs → ARs w U O ι bs us → ARs w U O ι (as ++ bs) (vs ++ us)
  | [],_,[],_,_,h' => by simpa using h'
  | a :: as,bs,v :: vs,us,h,h' => by simp only [ARs,List.cons_append] at h ⊢; exact ⟨h.1,ARs_append h.2 h'⟩
  | [],_,_ :: _,_,h,_ => by simp only [ARs] at h
  | _ :: _,_,[],_,h,_ => by simp only [ARs] at h
structure Later (w w':World) (U U':Nat → Prop) (O O':Nat → AObj) (ι ι':Nat → Value):Prop where
  u:∀ k,U k → U' k
  heap:∀ k,U k → w'.heap[k]? = w.heap[k]?
  -- of each name: free before; or dead now; or of the same kind,in the same place
  name:∀ o,O o = .none ∨ O' o = .dead ∨ (∃ cs cs',O o = .box cs ∧ O' o = .box cs' ∧ ι' o = ι o) ∨
    (∃ g ety esz n cs g' ety' esz' n' cs',O o = .arr g ety esz n cs ∧ O' o = .arr g' ety' esz' n' cs' ∧ ι' o = ι o ∧ g ≤ g' ∧
      (g = g' → ∀ off,isOw cs' off → isOw cs off ∧ ∀ b,(ι o).ownBlock = some b → w'.cell? ⟨b,off,none⟩ = w.cell? ⟨b,off,none⟩)) ∨
    (∃ Q Q',O o = .mp Q ∧ O' o = .mp Q' ∧ ι' o = ι o)
theorem AR_none_false {w:World} {U:Nat → Prop} {O:Nat → AObj} {ι:Nat → Value} {o:Nat} (h:O o = .none) {g off:Nat} {v:Value} :
    ¬ AR w U O ι (.box o off) v ∧ ¬ AR w U O ι (.arr o) v ∧ ¬ AR w U O ι (.pa o off) v ∧ ¬ AR w U O ι (.inr o g off) v ∧ ¬ AR w U O ι (.mp o) v:=by
  refine ⟨?_,?_,?_,?_,?_⟩ <;> (simp only [AR,h]; exact id)
mutual
theorem AR_later {w w':World} {U U':Nat → Prop} {O O':Nat → AObj} {ι ι':Nat → Value} (L:Later w w' U U' O O' ι ι'):∀ (a:AV) (v:Value),AR w U O ι a v → AR w' U' O' ι' a v
  | .any,_,_ => by simp only [AR]
  | .c p,v,h => by simp only [AR] at h ⊢; exact R_mono L.u L.heap p v [] h (by simp)
  | .nil,v,h => by simpa only [AR] using h
  | .agg cs,v,h => by
    simp only [AR] at h ⊢
    obtain ⟨vs,rfl,hs⟩:=h
    exact ⟨vs,rfl,ARs_later L cs vs.toList hs⟩
  | .box o off,v,h => by
    rcases L.name o with hn | hn | ⟨cs,cs',h1,h2,h3⟩ | ⟨g1,ety,esz,n,cs,g2,ety',esz',n',cs',h1,h2,h3,h5,h4⟩ | ⟨Q,Q',h1,h2,h3⟩
    · exact absurd h (AR_none_false (g:=0) hn).1
    · simp only [AR,hn]
    · simp only [AR,h1] at h; simp only [AR,h2,h3]; exact h
    · simp only [AR,h1] at h
    · simp only [AR,h1] at h
  | .arr o,v,h => by
    rcases L.name o with hn | hn | ⟨cs,cs',h1,h2,h3⟩ | ⟨g1,ety,esz,n,cs,g2,ety',esz',n',cs',h1,h2,h3,h5,h4⟩ | ⟨Q,Q',h1,h2,h3⟩
    · exact absurd h (AR_none_false (g:=0) (off:=0) hn).2.1
    · simp only [AR,hn]
    · simp only [AR,h1] at h
    · simp only [AR,h1] at h; simp only [AR,h2,h3]; exact h
    · simp only [AR,h1] at h
  | .pa o off,v,h => by
    rcases L.name o with hn | hn | ⟨cs,cs',h1,h2,h3⟩ | ⟨g1,ety,esz,n,cs,g2,ety',esz',n',cs',h1,h2,h3,h5,h4⟩ | ⟨Q,Q',h1,h2,h3⟩
    · exact absurd h (AR_none_false (g:=0) hn).2.2.1
    · simp only [AR,hn]
    · simp only [AR,h1] at h
    · simp only [AR,h1] at h; simp only [AR,h2,h3]; exact h
    · simp only [AR,h1] at h; simp only [AR,h2,h3]; exact h
  | .mp o,v,h => by
    rcases L.name o with hn | hn | ⟨cs,cs',h1,h2,h3⟩ | ⟨g1,ety,esz,n,cs,g2,ety',esz',n',cs',h1,h2,h3,h5,h4⟩ | ⟨Q,Q',h1,h2,h3⟩
    · exact absurd h (AR_none_false (g:=0) (off:=0) hn).2.2.2.2
    · simp only [AR,hn]
    · simp only [AR,h1] at h
    · simp only [AR,h1] at h
    · simp only [AR,h1] at h; simp only [AR,h2,h3]; exact h
  | .inr o g off,v,h => by
    rcases L.name o with hn | hn | ⟨cs,cs',h1,h2,h3⟩ | ⟨g1,ety,esz,n,cs,g2,ety',esz',n',cs',h1,h2,h3,h5,h4⟩ | ⟨Q,Q',h1,h2,h3⟩
    · exact absurd h (AR_none_false hn).2.2.2.1
    · simp only [AR,hn]
    · simp only [AR,h1] at h
    · simp only [AR,h1] at h
      simp only [AR,h2,h3]
      refine ⟨Nat.le_trans h.1 h5,fun hg hi => ?_⟩
      have hg1:g1 = g2:=Nat.le_antisymm h5 (hg ▸ h.1)
      obtain ⟨h7,h6⟩:=h4 hg1 off hi
      obtain ⟨b,hb,hc⟩:=h.2 (hg.trans hg1.symm) h7
      exact ⟨b,hb,(h6 b hb).trans hc⟩
    · simp only [AR,h1] at h
  | .pc cs off,v,h => by
    simp only [AR] at h ⊢
    obtain ⟨b,o0,xs,hv,hb,hm,hr⟩:=h
    exact ⟨b,o0,xs,hv,L.u _ hb,memAt_mono hm (L.heap _ hb),Rs_mono L.u L.heap cs xs [] hr (by simp)⟩
  | .tup vs,v,h => by
    simp only [AR] at h ⊢
    obtain ⟨xs,rfl,hs⟩:=h
    exact ⟨xs,rfl,ARs_later L vs xs.toList hs⟩
  | .fn f cap,v,h => by
    simp only [AR] at h ⊢
    obtain ⟨xs,rfl,hs⟩:=h
    exact ⟨xs,rfl,ARs_later L cap xs.toList hs⟩
  | .gd b x,v,h => by
    simp only [AR] at h ⊢
    exact ⟨fun hb => AR_later L x v (h.1 hb),h.2⟩
theorem ARs_later {w w':World} {U U':Nat → Prop} {O O':Nat → AObj} {ι ι':Nat → Value} (L:Later w w' U U' O O' ι ι'):∀ (as:List AV) (vs:List Value),ARs w U O ι as vs → ARs w' U' O' ι' as vs
  | [],[],_ => by simp only [ARs]
  | a :: as,v :: vs,h => by simp only [ARs] at h ⊢; exact ⟨AR_later L a v h.1,ARs_later L as vs h.2⟩
  | [],_ :: _,h => by simp only [ARs] at h
  | _ :: _,[],h => by simp only [ARs] at h
end
structure Move (C:Ctx) (O O':Nat → AObj) (w w':World) (ι ι':Nat → Value) (Fs Fs':Nat → List Nat) (X:Nat → Prop):Prop where
  os:w'.os = w.os
  tape:Tp w w'
  output:w'.output = w.output
  size:w.heap.size ≤ w'.heap.size
  block:∀ k,k < w.heap.size → (∀ o,X o → k ∉ Fs o) → w'.heap[k]? = w.heap[k]?
  same:∀ o,¬ X o → O' o = O o ∧ ι' o = ι o ∧ Fs' o = Fs o
  name:∀ o,X o → O o = .none ∨ O' o = .dead ∨ (∃ cs cs',O o = .box cs ∧ O' o = .box cs' ∧ ι' o = ι o) ∨
    (∃ g ety esz n cs g' ety' esz' n' cs',O o = .arr g ety esz n cs ∧ O' o = .arr g' ety' esz' n' cs' ∧ ι' o = ι o ∧ g ≤ g' ∧
      (g = g' → ∀ off,isOw cs' off → isOw cs off ∧ ∀ b,(ι o).ownBlock = some b → w'.cell? ⟨b,off,none⟩ = w.cell? ⟨b,off,none⟩)) ∨
    (∃ Q Q',O o = .mp Q ∧ O' o = .mp Q' ∧ ι' o = ι o)
  ob:∀ o,X o → ObR w' (Un C w' Fs') O' ι' (O' o) (ι' o) (Fs' o)
  nd:∀ o,X o → (Fs' o).Nodup
  own:∀ o,X o → ∀ b,b ∈ Fs' o → b < w'.heap.size ∧ (w.heap.size ≤ b ∨ ∃ o1,X o1 ∧ b ∈ Fs o1)
  dis:∀ o o',X o → X o' → o ≠ o' → ∀ b,b ∈ Fs' o → b ∉ Fs' o'
theorem ObR_later {w w':World} {U U':Nat → Prop} {O O':Nat → AObj} {ι ι':Nat → Value} (L:Later w w' U U' O O' ι ι') {ob:AObj} {v:Value} {F:List Nat}
    (h:ObR w U O ι ob v F) (hF:∀ k,k ∈ F → w'.heap[k]? = w.heap[k]?):ObR w' U' O' ι' ob v F:=by
  cases ob with
  | none => exact h
  | dead => exact h
  | box cs =>
    obtain ⟨b,vals,ty,hv,hh,hr,h1,rfl⟩:=h
    exact ⟨b,vals,ty,hv,by rw [hF b (by simp)]; exact hh,ARs_later L cs vals.toList hr,h1,rfl⟩
  | arr g ety esz n cs =>
    obtain ⟨xs,F',ho,hr,rfl⟩:=h
    exact ⟨xs,F',ownsRow_mono ho (fun k hk => hF k (by simp [hk])),Rs_mono L.u L.heap cs xs F' hr (fun k hk => hF k (by simp [hk])),rfl⟩
  | mp Q =>
    cases Q with
    | m l =>
      obtain ⟨b,ob,hv,hh,hq,rfl⟩:=h
      exact ⟨b,ob,hv,by rw [hF b (by simp)]; exact hh,hq,rfl⟩
    | bs l =>
      obtain ⟨b,cap,cur,e,fz,hv,hh,hq,hl,hc,rfl⟩:=h
      exact ⟨b,cap,cur,e,fz,hv,by rw [hF b (by simp)]; exact hh,hq,hl,hc,rfl⟩
theorem Move.un {C:Ctx} {O O':Nat → AObj} {w w':World} {ι ι':Nat → Value} {Fs Fs':Nat → List Nat} {X:Nat → Prop} (M:Move C O O' w w' ι ι' Fs Fs' X) (k:Nat) (h:Un C w Fs k):Un C w' Fs' k:=by
  obtain ⟨h1,h2,h3⟩:=h
  refine ⟨Nat.lt_of_lt_of_le h1 M.size,h2,fun o hk => ?_⟩
  by_cases hX:X o
  · rcases (M.own o hX k hk).2 with h4 | ⟨o1,_,h4⟩
    · omega
    · exact h3 o1 h4
  · rw [(M.same o hX).2.2] at hk
    exact h3 o hk
theorem Move.later {C:Ctx} {O O':Nat → AObj} {w w':World} {ι ι':Nat → Value} {Fs Fs':Nat → List Nat} {X:Nat → Prop} (M:Move C O O' w w' ι ι' Fs Fs' X)
    (hob:∀ o,ObR w (Un C w Fs) O ι (O o) (ι o) (Fs o)) (hdis:∀ o o',o ≠ o' → ∀ b,b ∈ Fs o → b ∉ Fs o') (hown:∀ o b,b ∈ Fs o → b < w.heap.size) :
    Later w w' (Un C w Fs) (Un C w' Fs') O O' ι ι' where
  u:=M.un
  heap k hk:=M.block k hk.1 (fun o _ => hk.2.2 o)
  name o:=by
    by_cases hX:X o
    · exact M.name o hX
    · obtain ⟨h1,h2,h3⟩:=M.same o hX
      have hob':=hob o
      cases hO:O o with
      | none => exact .inl rfl
      | dead => exact .inr (.inl (by rw [h1,hO]))
      | box cs => exact .inr (.inr (.inl ⟨cs,cs,rfl,by rw [h1,hO],h2⟩))
      | mp Q => exact .inr (.inr (.inr (.inr ⟨Q,Q,rfl,by rw [h1,hO],h2⟩)))
      | arr g ety esz n cs =>
        refine .inr (.inr (.inr (.inl ⟨g,ety,esz,n,cs,g,ety,esz,n,cs,rfl,by rw [h1,hO],h2,Nat.le_refl _,fun _ off hi => ⟨hi,fun b hb => ?_⟩⟩)))
        rw [hO] at hob'
        obtain ⟨xs,F',ho,_,hF⟩:=hob'
        have hbm:b ∈ Fs o:=by rw [hF]; simp [hb]
        refine World.cell?_of_block (w:=w) (w':=w') (a:=⟨b,off,none⟩) (M.block b (hown o b hbm) (fun o1 hX1 hb1 => ?_))
        by_cases he:o = o1
        · exact hX (he ▸ hX1)
        · exact hdis o o1 he b hbm hb1
theorem Sim.later {C:Ctx} {σ:AEnv} {a:Act} {w w':World} {ι ι':Nat → Value} {Fs Fs':Nat → List Nat} {O':Nat → AObj} {X:Nat → Prop} (h:Sim C σ a w ι Fs)
    (M:Move C σ.o O' w w' ι ι' Fs Fs' X):Later w w' (Un C w Fs) (Un C w' Fs') σ.o O' ι ι':=M.later h.ob h.dis (fun o b hb => (h.own o b hb).1)
theorem Sim.move {C:Ctx} {σ:AEnv} {a:Act} {w w':World} {ι ι':Nat → Value} {Fs Fs':Nat → List Nat} {O':Nat → AObj} {X:Nat → Prop} (h:Sim C σ a w ι Fs)
    (M:Move C σ.o O' w w' ι ι' Fs Fs' X):Sim C ⟨σ.t,O'⟩ a w' ι' Fs':=by
  have L:=h.later M
  refine ⟨⟨M.os.trans h.kept.os,h.kept.tape.trans M.tape,M.output.trans h.kept.output,Nat.le_trans h.kept.size M.size,fun k hk hS => ?_⟩,fun i => AR_later L _ _ (h.tm i),fun o => ?_,fun o o' hne b hb hb' => ?_,fun o => ?_,fun o b hb => ?_,h.df,h.sz,h.kp⟩
  · rw [M.block k (Nat.lt_of_lt_of_le hk h.kept.size) (fun o hX hb => ?_),h.kept.block k hk hS]
    rcases (h.own o k hb).2 with h1 | h1
    · omega
    · exact hS h1
  · by_cases hX:X o
    · exact M.ob o hX
    · obtain ⟨h1,h2,h3⟩:=M.same o hX
      simp only [h1,h2,h3]
      exact ObR_later L (h.ob o) (fun k hk => M.block k (h.own o k hk).1 (fun o1 hX1 hb1 => by
        by_cases he:o = o1
        · exact hX (he ▸ hX1)
        · exact h.dis o o1 he k hk hb1))
  · by_cases hX:X o
    · by_cases hX':X o'
      · exact M.dis o o' hX hX' hne b hb hb'
      · rw [(M.same o' hX').2.2] at hb'
        rcases (M.own o hX b hb).2 with h1 | ⟨o1,hX1,h1⟩
        · have:=(h.own o' b hb').1; omega
        · exact h.dis o' o1 (fun e => hX' (e ▸ hX1)) b hb' h1
    · rw [(M.same o hX).2.2] at hb
      by_cases hX':X o'
      · rcases (M.own o' hX' b hb').2 with h1 | ⟨o1,hX1,h1⟩
        · have:=(h.own o b hb).1; omega
        · exact h.dis o o1 (fun e => hX (e ▸ hX1)) b hb h1
      · rw [(M.same o' hX').2.2] at hb'
        exact h.dis o o' hne b hb hb'
  · by_cases hX:X o
    · exact M.nd o hX
    · rw [(M.same o hX).2.2]; exact h.nd o
  · by_cases hX:X o
    · obtain ⟨h1,h2⟩:=M.own o hX b hb
      refine ⟨h1,?_⟩
      rcases h2 with h2 | ⟨o1,hX1,h2⟩
      · exact .inl (Nat.le_trans h.kept.size h2)
      · exact (h.own o1 b h2).2
    · rw [(M.same o hX).2.2] at hb
      exact ⟨Nat.lt_of_lt_of_le (h.own o b hb).1 M.size,(h.own o b hb).2⟩
def AEnv.set (σ:AEnv) (d:Option Nat) (x:AV):AEnv:=match d with
  | some d => ⟨fun i => if i = d then x else σ.t i,σ.o⟩
  | none => σ
theorem Sim.put {C:Ctx} {σ:AEnv} {a:Act} {w:World} {ι:Nat → Value} {Fs:Nat → List Nat} (h:Sim C σ a w ι Fs) (d:Option Nat) {x:AV} {v:Value}
    (hd:∀ k,d = some k → C.N.1 ≤ k ∧ k < C.N.2) (hx:AR w (Un C w Fs) σ.o ι x v):Sim C (σ.set d x) (a.put d v) w ι Fs:=by
  cases d with
  | none => exact h
  | some d =>
    have hd':d < a.tmps.size:=by rw [h.sz]; exact (hd d rfl).2
    refine ⟨h.kept,fun i => ?_,h.ob,h.dis,h.nd,h.own,h.df,by simp [Act.put,h.sz],fun i hi => ?_⟩
    rotate_left
    · have hi':d ≠ i:=fun e => by have:=(hd d rfl).1; omega
      rw [← h.kp i hi]
      simp [Act.put,Array.getElem?_setIfInBounds_ne hi']
    simp only [AEnv.set,Act.put]
    by_cases hi:i = d
    · subst hi; simp [hd',hx]
    · have hi':d ≠ i:=fun e => hi e.symm
      simp only [hi,if_false]
      simpa [Array.getElem?_setIfInBounds_ne hi'] using h.tm i
end Am
namespace Am
open Go
inductive TyK where
  | int (k:IntKind) | bool | str
  | slice (e:Nat)
  | struct (fs:List (Nat × Nat))
  | other
structure TyI where
  k:TyK
  size:Nat
  bytes:Nat
  zero:List AV
  eq:Bool
def isOther:TyK → Bool
  | .other => true
  | _ => false
abbrev Ty:=List (Nat × TyI)
def capMax:Nat:=1099511627776
structure Eff where
  side:Prop
  val:AV
  oe:List (Nat × AObj)
def ofConst:Value → AV
  | .int k n => .c (.int k n)
  | .bool b => .c (.bool b)
  | .string s => .c (.str s)
  | .slice none 0 0 => .nil
  | .agg cs => .agg (cs.toList.map fun v => match v with
    | .int k n => .c (.int k n)
    | .bool b => .c (.bool b)
    | .string s => .c (.str s)
    | .slice none 0 0 => .nil
    | _ => .any)
  | _ => .any
def ev (σ:AEnv):Operand → AV
  | .tmp t => σ.t t
  | .const v => ofConst v
  | .func f => .fn f []
  | .global _ => .any
def AV.ug:AV → Prop × AV
  | .gd b v => (b = true,v)
  | v => (True,v)
def abits (k:IntKind) (r:BitVec k.bits):PV:=.int k (k.wrap r.toNat)
def abin (op:BinOp):PV → PV → Option (Prop × PV)
  | .int k a,.int k' b => match op with
    | .shl => some (0 ≤ b,.int k (k.wrap (a * 2 ^ (min b.toNat k.bits))))
    | .shr => some (0 ≤ b,.int k (a.fdiv (2 ^ (min b.toNat k.bits))))
    | op => if k = k' then match op with
      | .add => some (True,.int k (k.wrap (a + b)))
      | .sub => some (True,.int k (k.wrap (a - b)))
      | .mul => some (True,.int k (k.wrap (a * b)))
      | .quo => some (b ≠ 0,.int k (k.wrap (a.tdiv b)))
      | .rem => some (b ≠ 0,.int k (a.tmod b))
      | .and => some (True,abits k (BitVec.ofInt k.bits a &&& BitVec.ofInt k.bits b))
      | .or => some (True,abits k (BitVec.ofInt k.bits a ||| BitVec.ofInt k.bits b))
      | .xor => some (True,abits k (BitVec.ofInt k.bits a ^^^ BitVec.ofInt k.bits b))
      | .eql => some (True,.bool (a == b))
      | .neq => some (True,.bool (a != b))
      | .lss => some (True,.bool (decide (a < b)))
      | .leq => some (True,.bool (decide (a ≤ b)))
      | .gtr => some (True,.bool (decide (a > b)))
      | .geq => some (True,.bool (decide (a ≥ b)))
      | _ => none
      else none
  | .str a,.str b => match op with
    | .add => some (a.size + b.size ≤ capMax,.str (a ++ b))
    | .eql => some (True,.bool (a.toList == b.toList))
    | .neq => some (True,.bool (!(a.toList == b.toList)))
    | .lss => some (True,.bool (Op.bytesLess a.toList b.toList))
    | .leq => some (True,.bool (Op.bytesLess a.toList b.toList || a.toList == b.toList))
    | .gtr => some (True,.bool (!(Op.bytesLess a.toList b.toList || a.toList == b.toList)))
    | .geq => some (True,.bool (!Op.bytesLess a.toList b.toList))
    | _ => none
  | _,_ => none
def eqCell:AV → AV → AV → Option Bool
  | .c (.int _ _),.c (.int k a),.c (.int k' b) => if k = k' then some (a == b) else none
  | .c (.bool _),.c (.bool a),.c (.bool b) => some (a == b)
  | .c (.str _),.c (.str a),.c (.str b) => some (a.toList == b.toList)
  | _,_,_ => none
def eqCells:List AV → List AV → List AV → Option Bool
  | [],[],[] => some true
  | z :: zs,x :: xs,y :: ys => match eqCell z x y,eqCells zs xs ys with
    | some a,some b => some (a && b)
    | _,_ => none
  | _,_,_ => none
def apickV (t:Bool):AV → AV → Option AV
  | .c (.bool a),.c (.bool b) => some (.c (.bool (cond t a b)))
  | .c (.int k a),.c (.int k' b) => if k = k' then some (.c (.int k (cond t a b))) else none
  | .c (.str a),.c (.str b) => some (.c (.str (cond t a b)))
  | .any,y => match t with
    | false => some y
    | true => none
  | x,.any => match t with
    | true => some x
    | false => none
  | _,_ => none
def cellOk (O:Nat → AObj):AV → Bool
  | .c _ => true
  | .nil => true
  | .arr o => match O o with | .arr _ _ _ _ _ => true | _ => false
  | _ => false
def cellsOf (O:Nat → AObj):AV → Option (List AV)
  | .agg cs => if cs.all (cellOk O) then some cs else none
  | x => if cellOk O x then some [x] else none
def isFree:PV → Bool
  | .ow _ _ _ _ => false
  | _ => true
def amake (ρ:Operand → AV):Go.Fn → List Operand → List Operand → Option Eff
  | .func f,[],caps => some ⟨True,.fn f (caps.map ρ),[]⟩
  | _,_,_ => none
def toPV (O:Nat → AObj):AV → Option (PV × List Nat)
  | .c p => if isFree p = true then some (p,[]) else none
  | .nil => some (.im 0 [],[])
  | .arr o => match O o with
    | .arr _ e s n cs => some (.ow e s n cs,[o])
    | _ => none
  | _ => none
def toPVs (O:Nat → AObj):List AV → Option (List PV × List Nat)
  | [] => some ([],[])
  | x :: xs => match toPV O x,toPVs O xs with
    | some (p,l),some (ps,ls) => some (p :: ps,l ++ ls)
    | _,_ => none
def ofPV (o g off:Nat):PV → AV
  | .ow _ _ _ _ => .inr o g off
  | p => .c p
def ofPVs (o g off:Nat):List PV → List AV
  | [] => []
  | p :: ps => ofPV o g off p :: ofPVs o g (off + 1) ps
def outPV (k:Nat):PV → AV × List (Nat × AObj)
  | .ow e s n cs => (.arr k,[(k,.arr 0 e s n cs)])
  | p => (.c p,[])
def outPVs (k:Nat):List PV → List AV × List (Nat × AObj)
  | [] => ([],[])
  | p :: ps => ((outPV k p).1 :: (outPVs (k + 1) ps).1,(outPV k p).2 ++ (outPVs (k + 1) ps).2)
def leftPV:PV → PV
  | .ow _ _ _ _ => .any
  | p => p
def freeOE (O:Nat → AObj):List (Nat × AObj) → Prop
  | [] => True
  | (k,_) :: r => O k = .none ∧ freeOE O r
def splice {α:Type} (l:List α) (off:Nat) (xs:List α):List α:=l.take off ++ xs ++ l.drop (off + xs.length)
def fillA:List AV → List (Nat × List AV) → Option (List AV)
  | cs,[] => some cs
  | cs,(off,xs) :: r => if off + xs.length ≤ cs.length then fillA (splice cs off xs) r else none
def lenA (O:Nat → AObj):AV → Option Nat
  | .c (.im n _) => some n
  | .nil => some 0
  | .arr o => match O o with | .arr _ _ _ n _ => some n | _ => none
  | .inr o g off => match O o with
    | .arr g' _ _ _ cs => if g = g' then match cs[off]? with | some (.ow _ _ n _) => some n | _ => none
      else none
    | _ => none
  | _ => none
def readA (O:Nat → AObj):AV → Option (Nat × List PV × List Nat)
  | .c (.im n cs) => some (n,cs,[])
  | .nil => some (0,[],[])
  | .arr o => match O o with | .arr _ _ _ n cs => some (n,cs,if cs.all isFree then [] else [o]) | _ => none
  | _ => none
def part1 (T:Ty) (ρ:Operand → AV) (O:Nat → AObj) (fs:List (Nat × Nat)) (p:Nat × Operand):Option (Nat × List AV) :=
  match fs[p.1]?,cellsOf O (ρ p.2) with
  | some (off,ft),some cs => match T.lookup ft with
    | some i => if cs.length = i.size then some (off,cs) else none
    | none => none
  | _,_ => none
def partS (ρ:Operand → AV) (O:Nat → AObj) (size:Nat) (p:Nat × Operand):Option (Nat × List AV) :=
  match cellsOf O (ρ p.2) with
  | some cs => if cs.length = size then some (p.1 * size,cs) else none
  | none => none
def allSome {α:Type}:List (Option α) → Option (List α)
  | [] => some []
  | some x :: r => match allSome r with | some l => some (x :: l) | none => none
  | none :: _ => none
def bytesOf:List PV → List UInt8
  | .int .u8 n :: r => UInt8.ofNat n.toNat :: bytesOf r
  | _ => []
def allBytes:List PV → Prop
  | [] => True
  | .int .u8 n :: r => (0 ≤ n ∧ n < 256) ∧ allBytes r
  | _ => False
def bt (s:ByteArray) (i:Int):Int:=((s.data.toList.getD i.toNat 0).toNat:Int)
def abuiltin (T:Ty) (O:Nat → AObj) (dst:Option Nat):Builtin → List AV → List Nat → Option Eff
  | .len,[x],[t] => match T.lookup t with
    | some ⟨.str,_,_,_,_⟩ => match x.ug with
      | (s,.c (.str b)) => some ⟨s,.c (.int .i64 b.size),[]⟩
      | _ => none
    | some ⟨.slice _,_,_,_,_⟩ => match x.ug with
      | (s,v) => match lenA O v with
        | some n => some ⟨s,.c (.int .i64 n),[]⟩
        | none => none
    | _ => none
  | .max,[x,y],_ => match x.ug,y.ug with
    | (s,.c (.int k a)),(s2,.c (.int _ b)) => some ⟨s ∧ s2,.c (.int k (if b > a then b else a)),[]⟩
    | _,_ => none
  | .min,[x,y],_ => match x.ug,y.ug with
    | (s,.c (.int k a)),(s2,.c (.int _ b)) => some ⟨s ∧ s2,.c (.int k (if b < a then b else a)),[]⟩
    | _,_ => none
  | .append,[s,x],[t,t'] => if t = t' then match T.lookup t,dst with
    | some ⟨.slice e,_,_,_,_⟩,some d => match T.lookup e,readA O x with
      | some i,some (m,cs,gone) =>
        if 0 < i.size ∧ i.zero.length = i.size ∧ isOther i.k = false then match s with
        | .nil => some ⟨O (64 * d) = .none ∧ cs.length = m * i.size ∧ m * i.bytes ≤ capMax ∧ m ≤ capMax,.arr (64 * d),(64 * d,.arr 0 e i.size m cs) :: gone.map (·,.dead)⟩
        | .arr b => match O b with
          | .arr _ e' k n ds => if e' = e ∧ k = i.size then
              some ⟨O (64 * d) = .none ∧ b ∉ gone ∧ cs.length = m * i.size ∧ (n + m) * i.bytes ≤ capMax ∧ n + m ≤ capMax,.arr (64 * d),(64 * d,.arr 0 e i.size (n + m) (ds ++ cs)) :: (b,.dead) :: gone.map (·,.dead)⟩
            else none
          | _ => none
        | _ => none
        else none
      | _,_ => none
    | _,_ => none
    else none
  | _,_,_ => none
def bnd (ρ:Operand → AV) (d:Int):Option Operand → Prop × AV
  | some l => (ρ l).ug
  | none => (True,.c (.int .i64 d))
def astep (T:Ty) (mv:Bool) (ρ:Operand → AV) (O:Nat → AObj) (o:Oper):Option Eff :=
  match o.op with
  | .move x => let (s,v):=(ρ x).ug; some ⟨s,v,[]⟩
  | .assign x => let (s,v):=(ρ x).ug; some ⟨s,v,[]⟩
  | .nilCheck x => match ρ x with
    | .box b off => match O b with | .box _ => some ⟨True,.box b off,[]⟩ | _ => none
    | .pa b off => match O b with | .arr _ _ _ _ _ => some ⟨True,.pa b off,[]⟩ | _ => none
    | .pc cs off => some ⟨True,.pc cs off,[]⟩
    | _ => none
  | .pick c a b => match (ρ c).ug,(ρ a).ug,(ρ b).ug with
    | (s0,.c (.bool t)),(s1,x),(s2,y) => match apickV t x y with
      | some v => some ⟨s0 ∧ (t = true → s1) ∧ (t = false → s2),v,[]⟩
      | none => none
    | _,_,_ => none
  | .alloc t => match T.lookup t,o.dst with
    | some i,some d => match i.k with
      | .other => none
      | _ => some ⟨O (64 * d) = .none,.box (64 * d) 0,[(64 * d,.box i.zero)]⟩
    | _,_ => none
  | .box t x => match T.lookup t,o.dst,cellsOf O (ρ x) with
    | some _,some d,some cs => some ⟨O (64 * d) = .none,.box (64 * d) 0,[(64 * d,.box cs)]⟩
    | _,_,_ => none
  | .build t parts => match T.lookup t with
    | some ⟨.struct fs,_,_,zero,_⟩ => match allSome (parts.toList.map (part1 T ρ O fs)) with
      | some ps => match fillA zero ps with
        | some cs => some ⟨True,.agg cs,[]⟩
        | none => none
      | none => none
    | _ => none
  | .buildSlice t len parts => match T.lookup t with
    | some ⟨.slice e,_,_,_,_⟩ => match T.lookup e,o.dst with
      | some i,some d => if 0 < i.size ∧ i.zero.length = i.size ∧ isOther i.k = false then match allSome (parts.toList.map (partS ρ O i.size)) with
        | some ps => match fillA (List.replicate len i.zero).flatten ps with
          | some cs => match toPVs O cs with
            | some (ps,gone) => some ⟨O (64 * d) = .none ∧ gone.Nodup ∧ len * i.size ≤ 16777216,.arr (64 * d),(64 * d,.arr 0 e i.size len ps) :: gone.map (·,.dead)⟩
            | none => none
          | none => none
        | none => none
        else none
      | _,_ => none
    | _ => none
  | .load t a => match T.lookup t,(ρ a).ug with
    | some i,(s,.box b off) => match O b with
      | .box cs => match i.k with
        | .struct _ => if off + i.size ≤ cs.length then some ⟨s,.agg ((cs.drop off).take i.size),[]⟩ else none
        | .other => none
        | _ => match cs[off]? with | some x => some ⟨s,x,[]⟩ | none => none
      | _ => none
    | some i,(s,.pa b off) => match O b with
      | .arr g e1 s1 n1 cs => match mv with
        | false => match i.k with
          | .struct _ => some ⟨s ∧ off + i.size ≤ cs.length,.agg (ofPVs b g off ((cs.drop off).take i.size)),[]⟩
          | .other => none
          | _ => match cs[off]? with | some x => some ⟨s,ofPV b g off x,[]⟩ | none => none
        | true => match i.k,o.dst with
          | .struct _,some d => match (cs.drop off).take i.size with
            | ps => some ⟨s ∧ off + i.size ≤ cs.length ∧ ps.length ≤ 40 ∧ freeOE O (outPVs (64 * d) ps).2,.agg (outPVs (64 * d) ps).1,(b,.arr g e1 s1 n1 (splice cs off (ps.map leftPV))) :: (outPVs (64 * d) ps).2⟩
          | _,_ => none
      | _ => none
    | some i,(s,.pc cs off) => match i.k with
        | .struct _ => some ⟨s ∧ off + i.size ≤ cs.length,.agg (((cs.drop off).take i.size).map .c),[]⟩
        | .other => none
        | _ => match cs[off]? with | some x => some ⟨s,.c x,[]⟩ | none => none
    | _,_ => none
  | .store t a x => match T.lookup t,ρ a,cellsOf O (ρ x) with
    | some i,.box b off,some xs => match O b with
      | .box cs => if xs.length = i.size ∧ off + xs.length ≤ cs.length then some ⟨True,.any,[(b,.box (splice cs off xs))]⟩ else none
      | _ => none
    | some i,.pa b off,some xs => match O b with
      | .arr g e s n cs => match toPVs O xs with
        | some (ps,gone) => if xs.length = i.size then some ⟨off + ps.length ≤ cs.length ∧ gone.Nodup ∧ b ∉ gone,.any,(b,.arr (if ps.all isFree then g else g + 1) e s n (splice cs off ps)) :: gone.map (·,.dead)⟩ else none
        | _ => none
      | _ => none
    | _,_,_ => none
  | .binOp op t x y _ => match (ρ x).ug,(ρ y).ug with
    | (s1,.c (.bool a)),(s2,.c (.bool b)) => match op,T.lookup t with
      | .eql,some ⟨.bool,_,_,_,_⟩ => some ⟨s1 ∧ s2,.c (.bool (a == b)),[]⟩
      | .neq,some ⟨.bool,_,_,_,_⟩ => some ⟨s1 ∧ s2,.c (.bool (!(a == b))),[]⟩
      | _,_ => none
    | (s1,.c p),(s2,.c q) => match abin op p q with
      | some (s,r) => some ⟨s1 ∧ s2 ∧ s,.c r,[]⟩
      | none => none
    | (s1,.agg xs),(s2,.agg ys) => match T.lookup t with
      | some ⟨.struct _,_,_,zero,true⟩ => match op,eqCells zero xs ys with
        | .eql,some r => some ⟨s1 ∧ s2,.c (.bool r),[]⟩
        | .neq,some r => some ⟨s1 ∧ s2,.c (.bool (!r)),[]⟩
        | _,_ => none
      | _ => none
    | _,_ => none
  | .unOp op _ x => match op,(ρ x).ug with
    | .not,(s,.c (.bool b)) => some ⟨s,.c (.bool (!b)),[]⟩
    | .neg,(s,.c (.int k n)) => some ⟨s,.c (.int k (k.wrap (0 - n))),[]⟩
    | _,_ => none
  | .convert s t x => match T.lookup s,T.lookup t,(ρ x).ug with
    | some ⟨.int _,_,_,_,_⟩,some ⟨.int k',_,_,_,_⟩,(s,.c (.int _ n)) => some ⟨s,.c (.int k' (k'.wrap n)),[]⟩
    | some ⟨.slice e,_,_,_,_⟩,some ⟨.str,_,_,_,_⟩,(s,v) => match T.lookup e,readA O v with
      | some ⟨.int .u8,_,_,_,_⟩,some (m,cs,_) => some ⟨s ∧ allBytes cs ∧ cs.length = m,.c (.str ⟨(bytesOf cs).toArray⟩),[]⟩
      | _,_ => none
    | _,_,_ => none
  | .slice t x lo hi none => match T.lookup t,(ρ x).ug with
    | some ⟨.str,_,_,_,_⟩,(s,.c (.str b)) =>
      match bnd ρ 0 lo,bnd ρ b.size hi with
      | (s1,.c (.int _ l)),(s2,.c (.int _ h)) => some ⟨s ∧ s1 ∧ s2 ∧ 0 ≤ l ∧ l ≤ h ∧ h ≤ b.size,.c (.str (b.extract l.toNat h.toNat)),[]⟩
      | _,_ => none
    | some ⟨.slice e,_,_,_,_⟩,(s,.c (.im n cs)) => match T.lookup e with
      | some i => match bnd ρ 0 lo,bnd ρ n hi with
        | (s1,.c (.int _ l)),(s2,.c (.int _ h)) =>
          some ⟨s ∧ s1 ∧ s2 ∧ 0 ≤ l ∧ l ≤ h ∧ h ≤ n,.c (.im (h.toNat - l.toNat) ((cs.drop (l.toNat * i.size)).take ((h.toNat - l.toNat) * i.size))),[]⟩
        | _,_ => none
      | none => none
    | some ⟨.slice el,_,_,_,_⟩,(s,.arr b) => match O b,o.dst,lo,hi,T.lookup el with
      | .arr _ e k n cs,some d,none,some h,some _ => match (ρ h).ug with
        | (s2,.c (.int _ h)) => some ⟨s ∧ s2 ∧ 0 ≤ h ∧ h ≤ n ∧ O (64 * d) = .none ∧ cs.all isFree = true,.arr (64 * d),[(64 * d,.arr 0 e k h.toNat (cs.take (h.toNat * k))),(b,.dead)]⟩
        | _ => none
      | _,_,_,_,_ => none
    | _,_ => none
  | .makeSlice t l c => match T.lookup t,o.dst,ρ l,ρ c with
    | some ⟨.slice e,_,_,_,_⟩,some d,.c (.int _ n),.c (.int _ m) => match T.lookup e with
      | some i => match toPVs (fun _ => .none) i.zero with
        | some (zs,[]) => if 0 < i.size ∧ i.zero.length = i.size ∧ isOther i.k = false then some ⟨O (64 * d) = .none ∧ n = m ∧ 0 ≤ n ∧ n.toNat * i.bytes ≤ capMax ∧ n.toNat ≤ capMax,.arr (64 * d),[(64 * d,.arr 0 e i.size n.toNat (List.replicate n.toNat zs).flatten)]⟩ else none
        | _ => none
      | none => none
    | _,_,_,_ => none
  | .fieldAddr t x f => match T.lookup t with
    | some ⟨.struct fs,_,_,_,_⟩ => match fs[f]? with
      | some (fo,ft) => match T.lookup ft with
        | some i => if i.size = 0 then none else match (ρ x).ug with
          | (s,.box b off) => match O b with | .box _ => some ⟨s,.box b (off + fo),[]⟩ | _ => none
          | (s,.pa b off) => match O b with | .arr _ _ _ _ _ => some ⟨s,.pa b (off + fo),[]⟩ | _ => none
          | (s,.pc cs off) => some ⟨s,.pc cs (off + fo),[]⟩
          | _ => none
        | none => none
      | none => none
    | _ => none
  | .indexAddr t x ix => match T.lookup t with
    | some ⟨.slice e,_,_,_,_⟩ => match T.lookup e,(ρ ix).ug with
      | some i,(s2,.c (.int _ n)) => match (ρ x).ug with
        | (s,.c (.im m cs)) => some ⟨s ∧ s2 ∧ 0 ≤ n ∧ n < m ∧ cs ≠ [],.pc cs (n.toNat * i.size),[]⟩
        | (s,.arr b) => match O b with
          | .arr _ _ _ m _ => some ⟨s ∧ s2 ∧ 0 ≤ n ∧ n < m,.pa b (n.toNat * i.size),[]⟩
          | _ => none
        | _ => none
      | _,_ => none
    | _ => none
  | .index t x ix => match T.lookup t,(ρ x).ug,(ρ ix).ug with
    | some ⟨.str,_,_,_,_⟩,(s,.c (.str b)),(s2,.c (.int _ n)) => some ⟨s ∧ s2 ∧ 0 ≤ n ∧ n < b.size,.c (.int .u8 (bt b n)),[]⟩
    | _,_,_ => none
  | .makeFunc fn first caps => amake ρ fn first.toList caps.toList
  | .extract x i => match ρ x with
    | .tup vs => match vs[i]? with | some v => some ⟨True,v,[]⟩ | none => none
    | _ => none
  | .call c => match c.callee with
    | .builtin b => abuiltin T O o.dst b (c.args.toList.map ρ) c.argTypes.toList
    | _ => none
  | _ => none
end Am
namespace Am
open Go
def zmatch:AV → Value → Bool
  | .c (.int k n),.int k' n' => decide (k = k') && decide (n = n')
  | .c (.bool b),.bool b' => b == b'
  | .c (.str s),.string s' => decide (s.size = 0) && decide (s'.size = 0)
  | .nil,.slice none 0 0 => true
  | _,_ => false
def zmatches:List AV → List Value → Bool
  | [],[] => true
  | a :: as,v :: vs => zmatch a v && zmatches as vs
  | _,_ => false
def kmatch:TyK → TypeDesc → Bool
  | .int k,.int k' => decide (k = k')
  | .bool,.bool => true
  | .str,.string => true
  | .slice e,.slice e' => e == e'
  | .struct fs,.struct fields => (fields.toList.map fun f => (f.offset,f.type)) == fs
  | .other,_ => true
  | _,_ => false
def eqFs (P:Program) (rec_:Nat → List AV → Bool):List Field → Nat → List AV → Bool
  | [],_,zs => zs.isEmpty
  | f :: r, pos, zs => f.name != "_" && f.offset == pos && (match P.underlying f.type, zs with
    | some (.int _),.c (.int _ _) :: zs => eqFs P rec_ r (pos + 1) zs
    | some .bool,.c (.bool _) :: zs => eqFs P rec_ r (pos + 1) zs
    | some .string,.c (.str _) :: zs => eqFs P rec_ r (pos + 1) zs
    | some (.struct _),zs => (P.info? f.type).isSome && decide (P.cellsOf f.type ≤ zs.length) && rec_ f.type (zs.take (P.cellsOf f.type)) && eqFs P rec_ r (pos + P.cellsOf f.type) (zs.drop (P.cellsOf f.type))
    | _,_ => false)
def eqB (P:Program):Nat → Nat → List AV → Bool
  | 0,_,_ => false
  | d + 1,t,zs => decide (0 < d) && (match P.underlying t with | some (.struct _) => true | _ => false) && !P.stoodInHeld t && eqFs P (eqB P d) (P.fieldsOf t).toList 0 zs
def tyB (P:Program) (t:Nat) (i:TyI):Bool :=
  match P.info? t,P.underlying t with
  | some ti,some d => ti.size == i.size && ti.bytes == i.bytes && kmatch i.k d && (match ti.zero with
    | some z => (match i.k with | .other => true | _ => zmatches i.zero z.cells.toList) && (match i.k,z with | .struct _,.agg _ => true | .struct _,_ => false | _,.agg _ => false | _,.tuple _ => false | _,_ => true)
    | none => false) && (match d with | .struct fields => fields.toList.all (fun f => (P.info? f.type).isSome) | _ => true) && (!i.eq || (eqB P 50 t i.zero && !P.eqGuardType P.depth t))
  | _,_ => false
def TyOK (P:Program) (T:Ty):Prop:=P.follows .mixedOrders = true ∧ (T.all fun x => tyB P x.1 x.2) = true
structure TyM (P:Program) (t:Nat) (i:TyI):Prop where
  info:∃ ti z,P.info? t = some ti ∧ ti.size = i.size ∧ ti.bytes = i.bytes ∧ ti.zero = some z ∧ (i.k ≠ .other → zmatches i.zero z.cells.toList = true) ∧ ((∃ fs,i.k = .struct fs) → ∃ cs,z = .agg cs)
  und:∃ d,P.underlying t = some d ∧ kmatch i.k d = true
  fld:∀ fields:Array Field,P.underlying t = some (.struct fields) → ∀ f,f ∈ fields.toList → (P.info? f.type).isSome = true
  eq:i.eq = true → eqB P 50 t i.zero = true ∧ P.eqGuardType P.depth t = false
theorem lookup_mem {T:Ty} {t:Nat} {i:TyI} (h:T.lookup t = some i):(t,i) ∈ T:=by
  induction T with
  | nil => simp at h
  | cons x T ih =>
    obtain ⟨k,j⟩:=x
    simp only [List.lookup] at h
    split at h
    · rename_i hk
      have:t = k:=by simpa using hk
      subst this
      cases h
      exact List.mem_cons_self
    · exact List.mem_cons_of_mem _ (ih h)
theorem TyOK.m {P:Program} {T:Ty} (hT:TyOK P T) {t:Nat} {i:TyI} (h:T.lookup t = some i):TyM P t i:=by
  have hb:=List.all_eq_true.1 hT.2 _ (lookup_mem h)
  simp only [tyB] at hb
  split at hb
  · rename_i ti d hi hd
    simp only [Bool.and_eq_true,Bool.or_eq_true,Bool.not_eq_true',beq_iff_eq] at hb
    obtain ⟨⟨⟨⟨⟨h1,h2⟩,h3⟩,h4⟩,h6⟩,h5⟩:=hb
    split at h4
    · rename_i z hz
      simp only [Bool.and_eq_true] at h4
      refine ⟨⟨ti,z,hi,h1,h2,hz,fun hk => ?_,fun ⟨fs,hfs⟩ => ?_⟩,⟨d,hd,h3⟩,fun fields hfl f hf => ?_,fun he => ?_⟩
      · have h6:=h4.1
        split at h6
        · rename_i hk'; exact absurd hk' hk
        · exact h6
      · have h7:=h4.2
        rw [hfs] at h7
        cases z <;> first | exact ⟨_,rfl⟩ | (simp at h7)
      · rw [hd] at hfl
        cases hfl
        exact List.all_eq_true.1 h6 f hf
      · rw [he] at h5
        simpa using h5
    · cases h4
  · cases hb
theorem TyM.int {P:Program} {t:Nat} {i:TyI} (h:TyM P t i) {k:IntKind} (hk:i.k = .int k):P.underlying t = some (.int k):=by
  obtain ⟨d,hd,hm⟩:=h.und
  rw [hk] at hm
  cases d <;> simp [kmatch] at hm
  rw [hd,hm]
theorem TyM.bool {P:Program} {t:Nat} {i:TyI} (h:TyM P t i) (hk:i.k = .bool):P.underlying t = some .bool:=by
  obtain ⟨d,hd,hm⟩:=h.und
  rw [hk] at hm
  cases d <;> simp [kmatch] at hm
  exact hd
theorem TyM.str {P:Program} {t:Nat} {i:TyI} (h:TyM P t i) (hk:i.k = .str):P.underlying t = some .string:=by
  obtain ⟨d,hd,hm⟩:=h.und
  rw [hk] at hm
  cases d <;> simp [kmatch] at hm
  exact hd
theorem TyM.slice {P:Program} {t:Nat} {i:TyI} (h:TyM P t i) {e:Nat} (hk:i.k = .slice e):P.underlying t = some (.slice e):=by
  obtain ⟨d,hd,hm⟩:=h.und
  rw [hk] at hm
  cases d <;> simp [kmatch] at hm
  rw [hd,hm]
theorem TyM.struct {P:Program} {t:Nat} {i:TyI} (h:TyM P t i) {fs:List (Nat × Nat)} (hk:i.k = .struct fs) :
    ∃ fields:Array Field,P.underlying t = some (.struct fields) ∧ (fields.toList.map fun f => (f.offset,f.type)) = fs:=by
  obtain ⟨d,hd,hm⟩:=h.und
  rw [hk] at hm
  cases d <;> simp [kmatch] at hm
  exact ⟨_,hd,by simpa using hm⟩
section
variable {P:Program} {t:Nat} {i:TyI} (w:World)
theorem TyM.run_sizeOf (h:TyM P t i):(Go.sizeOf t).run P w = .ok i.size w:=by
  obtain ⟨ti,z,hi,h1,_⟩:=h.info
  simp [Go.sizeOf,typeInfo,hi,h1]
theorem TyM.run_isAgg (h:TyM P t i) (hk:i.k ≠ .other):(isAgg t).run P w = .ok (match i.k with | .struct _ => true | _ => false) w:=by
  obtain ⟨d,hd,hm⟩:=h.und
  cases hk':i.k with
  | other => exact absurd hk' hk
  | int k => have:=h.int hk'; simp [isAgg,run_underlying this]
  | bool => have:=h.bool hk'; simp [isAgg,run_underlying this]
  | str => have:=h.str hk'; simp [isAgg,run_underlying this]
  | slice e => have:=h.slice hk'; simp [isAgg,run_underlying this]
  | struct fs => obtain ⟨fields,h1,_⟩:=h.struct hk'; simp [isAgg,run_underlying h1]
end
theorem zmatch_AR {w:World} {U:Nat → Prop} {O:Nat → AObj} {ι:Nat → Value} {a:AV} {v:Value} (h:zmatch a v = true):AR w U O ι a v ∧ v.oneCell' = true:=by
  unfold zmatch at h
  split at h
  · simp only [Bool.and_eq_true,decide_eq_true_eq] at h; obtain ⟨rfl,rfl⟩:=h; exact ⟨by simp [AR,R],rfl⟩
  · rename_i b b'
    have:b = b':=by simpa using h
    subst this; exact ⟨by simp [AR,R],rfl⟩
  · rename_i s s'
    simp only [Bool.and_eq_true,decide_eq_true_eq] at h
    have e:∀ (s:ByteArray),s.size = 0 → s = ⟨#[]⟩:=fun s h => by
      obtain ⟨d⟩:=s
      have:d.size = 0:=h
      rw [Array.size_eq_zero_iff.1 this]
    rw [e s h.1,e s' h.2]
    exact ⟨by simp [AR,R],rfl⟩
  · exact ⟨by simp [AR],rfl⟩
  · cases h
theorem zmatches_ARs {w:World} {U:Nat → Prop} {O:Nat → AObj} {ι:Nat → Value}:∀ {as:List AV} {vs:List Value},zmatches as vs = true → ARs w U O ι as vs ∧ ∀ x ∈ vs,x.oneCell' = true
  | [],[],_ => ⟨by simp [ARs],by simp⟩
  | a :: as,v :: vs,h => by
    simp only [zmatches,Bool.and_eq_true] at h
    have h1:=zmatch_AR (w:=w) (U:=U) (O:=O) (ι:=ι) h.1
    have h2:=zmatches_ARs (w:=w) (U:=U) (O:=O) (ι:=ι) h.2
    refine ⟨by simp only [ARs]; exact ⟨h1.1,h2.1⟩,?_⟩
    intro x hx
    simp at hx
    rcases hx with rfl | hx
    · exact h1.2
    · exact h2.2 x hx
  | [],_ :: _,h => by simp [zmatches] at h
  | _ :: _,[],h => by simp [zmatches] at h
end Am
namespace Am
open Go
def AEnv.upd (σ:AEnv) (k:Nat) (ob:AObj):AEnv:=⟨σ.t,fun x => if x = k then ob else σ.o x⟩
def AEnv.wr:List (Nat × AObj) → AEnv → AEnv
  | [],σ => σ
  | (k,ob) :: r,σ => (AEnv.wr r σ).upd k ob
def Snd (P:Program) (C:Ctx) (σ:AEnv) (a:Act) (w:World) (o:Oper) (e:Eff):Prop :=
  ∃ r w' ι' Fs' v,(execOp a.eval o).run P w = .ok r w' ∧ (r = .value v ∨ (r = .skip ∧ v = undef)) ∧ Sim C (AEnv.wr e.oe σ) a w' ι' Fs' ∧ AR w' (Un C w' Fs') (AEnv.wr e.oe σ).o ι' e.val v
def Agr (O τ:Nat → AObj):Prop:=∀ k,O k ≠ .none → τ k ≠ .none → O k = τ k
section
variable {P:Program} {T:Ty} {mv:Bool} {C:Ctx} {σ:AEnv} {a:Act} {w:World} {ι:Nat → Value} {Fs:Nat → List Nat} {τ:Nat → AObj} {e:Eff}
theorem Snd.pure {o:Oper} {s:Prop} {x:AV} {v:Value} (h:Sim C σ a w ι Fs) (hr:(execOp a.eval o).run P w = .ok (.value v) w) (hx:AR w (Un C w Fs) σ.o ι x v):Snd P C σ a w o ⟨s,x,[]⟩ :=
  ⟨_,w,ι,Fs,v,hr,.inl rfl,h,hx⟩
theorem ofConst_AR {U:Nat → Prop} {O:Nat → AObj} (v:Value):AR w U O ι (ofConst v) v:=by
  unfold ofConst
  split
  · simp [AR,R]
  · simp [AR,R]
  · simp [AR,R]
  · simp [AR]
  · rename_i cs
    simp only [AR]
    refine ⟨cs,rfl,?_⟩
    generalize cs.toList = l
    induction l with
    | nil => simp [ARs]
    | cons v l ih =>
      simp only [List.map_cons,ARs]
      refine ⟨?_,ih⟩
      split <;> simp [AR,R]
  · simp [AR]
theorem ev_AR (h:Sim C σ a w ι Fs) (x:Operand):AR w (Un C w Fs) σ.o ι (ev σ x) (a.eval x):=by
  cases x with
  | tmp t => exact h.tm t
  | const v => exact ofConst_AR v
  | global g => simp [ev,AR]
  | func f => simp only [ev,AR,Act.eval]; exact ⟨#[],rfl,by simp [ARs]⟩
theorem ug_AR {U:Nat → Prop} {O:Nat → AObj} {x:AV} {v:Value} (h:AR w U O ι x v) (hs:x.ug.1):AR w U O ι x.ug.2 v:=by
  cases x with
  | gd b y => simp only [AV.ug] at hs ⊢; simp only [AR] at h; exact h.1 hs
  | _ => exact h
theorem ev_ug (h:Sim C σ a w ι Fs) (x:Operand) {s:Prop} {y:AV} (he:(ev σ x).ug = (s,y)) (hs:s):AR w (Un C w Fs) σ.o ι y (a.eval x):=by
  have:=ug_AR (ev_AR h x) (by rw [he]; exact hs)
  rwa [he] at this
theorem AR_int {U:Nat → Prop} {O:Nat → AObj} {k:IntKind} {n:Int} {v:Value} (h:AR w U O ι (.c (.int k n)) v):v = .int k n:=by simp only [AR,R] at h; exact h.1
theorem AR_bool {U:Nat → Prop} {O:Nat → AObj} {b:Bool} {v:Value} (h:AR w U O ι (.c (.bool b)) v):v = .bool b:=by simp only [AR,R] at h; exact h.1
theorem AR_str {U:Nat → Prop} {O:Nat → AObj} {s:ByteArray} {v:Value} (h:AR w U O ι (.c (.str s)) v):v = .string s:=by simp only [AR,R] at h; exact h.1
theorem AR_mkint {U:Nat → Prop} {O:Nat → AObj} {k:IntKind} {n:Int}:AR w U O ι (.c (.int k n)) (.int k n):=by simp [AR,R]
theorem AR_mkbool {U:Nat → Prop} {O:Nat → AObj} {b:Bool}:AR w U O ι (.c (.bool b)) (.bool b):=by simp [AR,R]
theorem AR_mkstr {U:Nat → Prop} {O:Nat → AObj} {s:ByteArray}:AR w U O ι (.c (.str s)) (.string s):=by simp [AR,R]
theorem agr_box {U:Nat → Prop} {O:Nat → AObj} (ha:Agr O τ) {b off:Nat} {v:Value} (h:AR w U O ι (.box b off) v) {cs:List AV} (hτ:τ b = .box cs) :
    O b = .box cs ∧ ∃ k,ι b = .pointer (some ⟨k,0,none⟩) ∧ v = .pointer (some ⟨k,off,none⟩):=by
  have hn:O b ≠ .none:=fun hn => (AR_none_false (g:=0) hn).1 h
  have he:O b = τ b:=ha b hn (by rw [hτ]; simp)
  rw [hτ] at he
  simp only [AR,he] at h
  exact ⟨he,h⟩
theorem agr_arr {U:Nat → Prop} {O:Nat → AObj} (ha:Agr O τ) {b:Nat} {v:Value} (h:AR w U O ι (.arr b) v) {g e s n:Nat} {cs:List PV} (hτ:τ b = .arr g e s n cs) :
    O b = .arr g e s n cs ∧ v = ι b:=by
  have hn:O b ≠ .none:=fun hn => (AR_none_false (g:=0) (off:=0) hn).2.1 h
  have he:O b = τ b:=ha b hn (by rw [hτ]; simp)
  rw [hτ] at he
  simp only [AR,he] at h
  exact ⟨he,h⟩
theorem agr_pa {U:Nat → Prop} {O:Nat → AObj} (ha:Agr O τ) {b off:Nat} {v:Value} (h:AR w U O ι (.pa b off) v) {g e s n:Nat} {cs:List PV} (hτ:τ b = .arr g e s n cs) :
    O b = .arr g e s n cs ∧ ∃ k,(ι b).ownBlock = some k ∧ v = .pointer (some ⟨k,off,none⟩):=by
  have hn:O b ≠ .none:=fun hn => (AR_none_false (g:=0) hn).2.2.1 h
  have he:O b = τ b:=ha b hn (by rw [hτ]; simp)
  rw [hτ] at he
  simp only [AR,he] at h
  exact ⟨he,h⟩
theorem agr_inr {U:Nat → Prop} {O:Nat → AObj} (ha:Agr O τ) {b g off:Nat} {v:Value} (h:AR w U O ι (.inr b g off) v) {g' e s n:Nat} {cs:List PV} (hτ:τ b = .arr g' e s n cs) :
    O b = .arr g' e s n cs ∧ (g = g' → isOw cs off → ∃ k,(ι b).ownBlock = some k ∧ w.cell? ⟨k,off,none⟩ = some v):=by
  have hn:O b ≠ .none:=fun hn => (AR_none_false hn).2.2.2.1 h
  have he:O b = τ b:=ha b hn (by rw [hτ]; simp)
  rw [hτ] at he
  simp only [AR,he] at h
  exact ⟨he,h.2⟩
theorem agr_mp {U:Nat → Prop} {O:Nat → AObj} (ha:Agr O τ) {b:Nat} {v:Value} (h:AR w U O ι (.mp b) v) {Q:MQ} (hτ:τ b = .mp Q) :
    O b = .mp Q ∧ v = ι b:=by
  have hn:O b ≠ .none:=fun hn => (AR_none_false (g:=0) (off:=0) hn).2.2.2.2 h
  have he:O b = τ b:=ha b hn (by rw [hτ]; simp)
  rw [hτ] at he
  simp only [AR,he] at h
  exact ⟨he,h⟩
variable {dst:Option Tmp} {type:TypeId} {pos:String} {after:Array Edge} {guard:Option (Nat × Bool)}
theorem snd_move (h:Sim C σ a w ι Fs) {x:Operand} (he:astep T mv (ev σ) τ ⟨dst,.move x,type,pos,after,guard⟩ = some e) (hs:e.side):Snd P C σ a w ⟨dst,.move x,type,pos,after,guard⟩ e:=by
  simp only [astep] at he
  cases he
  exact Snd.pure h (by simp [execOp]) (ug_AR (ev_AR h x) hs)
theorem snd_assign (h:Sim C σ a w ι Fs) {x:Operand} (he:astep T mv (ev σ) τ ⟨dst,.assign x,type,pos,after,guard⟩ = some e) (hs:e.side):Snd P C σ a w ⟨dst,.assign x,type,pos,after,guard⟩ e:=by
  simp only [astep] at he
  cases he
  exact Snd.pure h (by simp [execOp]) (ug_AR (ev_AR h x) hs)
theorem snd_nilCheck (h:Sim C σ a w ι Fs) {x:Operand} (he:astep T mv (ev σ) τ ⟨dst,.nilCheck x,type,pos,after,guard⟩ = some e) (ha:Agr σ.o τ):Snd P C σ a w ⟨dst,.nilCheck x,type,pos,after,guard⟩ e:=by
  have hx:=ev_AR h x
  simp only [astep] at he
  split at he
  · rename_i b off hb
    split at he
    · rename_i cs hτ
      cases he
      rw [hb] at hx
      obtain ⟨h1,k,h2,h3⟩:=agr_box ha hx hτ
      exact Snd.pure h (v:=a.eval x) (by simp [execOp,h3]) hx
    · cases he
  · rename_i b off hb
    split at he
    · rename_i g ety esz n cs hτ
      cases he
      rw [hb] at hx
      obtain ⟨h1,k,h2,h3⟩:=agr_pa ha hx hτ
      exact Snd.pure h (v:=a.eval x) (by simp [execOp,h3]) hx
    · cases he
  · rename_i cs off hb
    cases he
    rw [hb] at hx
    have hx':=hx
    simp only [AR] at hx'
    obtain ⟨b,o0,xs,hv,_⟩:=hx'
    exact Snd.pure h (v:=a.eval x) (by simp [execOp,hv]) hx
  · cases he
theorem apickV_AR {U:Nat → Prop} {O:Nat → AObj} {t:Bool} {x y r:AV} {v u:Value} (hr:apickV t x y = some r) (hx:t = true → AR w U O ι x v) (hy:t = false → AR w U O ι y u):AR w U O ι r (if t then v else u):=by
  unfold apickV at hr
  split at hr
  · cases hr
    cases t
    · simpa using hy rfl
    · simpa using hx rfl
  · split at hr
    · rename_i hk
      subst hk
      cases hr
      cases t
      · simpa using hy rfl
      · simpa using hx rfl
    · cases hr
  · cases hr
    cases t
    · simpa using hy rfl
    · simpa using hx rfl
  · cases t
    · cases hr; simpa using hy rfl
    · cases hr
  · cases t
    · cases hr
    · cases hr; simpa using hx rfl
  · cases hr
theorem snd_pick (h:Sim C σ a w ι Fs) {c x y:Operand} (he:astep T mv (ev σ) τ ⟨dst,.pick c x y,type,pos,after,guard⟩ = some e) (hs:e.side):Snd P C σ a w ⟨dst,.pick c x y,type,pos,after,guard⟩ e:=by
  simp only [astep] at he
  split at he
  · rename_i s0 t s1 x' s2 y' h0 h1 h2
    split at he
    · rename_i v hv
      cases he
      obtain ⟨hs0,hs1,hs2⟩:=hs
      have hc:=AR_bool (ev_ug h c h0 hs0)
      refine Snd.pure h (v:=if t then a.eval x else a.eval y) (by simp [execOp,hc,asBool]) (apickV_AR hv (fun ht => ev_ug h x h1 (hs1 ht)) (fun ht => ev_ug h y h2 (hs2 ht)))
    · cases he
  · cases he
theorem abin_run {op:BinOp} {t:Nat} {p q r:PV} {s:Prop} {x y:Value} (hx:R w (Un C w Fs) p x []) (hy:R w (Un C w Fs) q y []) (h:abin op p q = some (s,r)) (hs:s) (xo yo:Operand) :
    ∃ v,(do eqGuard op t xo yo x y; binOp op t x y:Sem Value).run P w = .ok v w ∧ R w (Un C w Fs) r v []:=by
  unfold abin at h
  split at h
  · rename_i k a k' b
    simp only [R] at hx hy
    obtain ⟨rfl,_⟩:=hx
    obtain ⟨rfl,_⟩:=hy
    split at h
    · cases h
      have hs':¬ b < 0:=by omega
      exact ⟨_,by simp [eqGuard,binOp,Op.shift,hs']; rfl,by simp [R]⟩
    · cases h
      have hs':¬ b < 0:=by omega
      exact ⟨_,by simp [eqGuard,binOp,Op.shift,hs']; rfl,by simp [R]⟩
    · split at h
      · rename_i hk
        subst hk
        split at h <;> cases h
        case h_4 => exact ⟨_,by simp [eqGuard,binOp,Op.intDiv,show ¬ b = 0 from hs]; rfl,by simp [R]⟩
        case h_5 => exact ⟨_,by simp [eqGuard,binOp,Op.intDiv,hs]; rfl,by simp [R]⟩
        all_goals exact ⟨_,by simp [eqGuard,binOp,Op.intArith,Op.intBits,Op.intCmp]; rfl,by simp [R,abits]⟩
      · cases h
  · rename_i a b
    simp only [R] at hx hy
    obtain ⟨rfl,_⟩:=hx
    obtain ⟨rfl,_⟩:=hy
    split at h <;> cases h
    · have h1:¬ (((a.size + b.size:Nat):Int) > IntKind.i64.max):=by
        have:a.size + b.size ≤ 1099511627776:=hs
        have e:IntKind.i64.max = 9223372036854775807:=by decide
        rw [e]; omega
      exact ⟨_,by simp only [eqGuard,binOp,Op.stringOp]; simp only [h1,if_false]; rfl,by simp [R]⟩
    all_goals exact ⟨_,by simp [eqGuard,binOp,Op.stringOp]; rfl,by simp [R]⟩
  · cases h
theorem snd_unOp (h:Sim C σ a w ι Fs) {op:UnOp} {t:Nat} {x:Operand} (he:astep T mv (ev σ) τ ⟨dst,.unOp op t x,type,pos,after,guard⟩ = some e) (hs:e.side):Snd P C σ a w ⟨dst,.unOp op t x,type,pos,after,guard⟩ e:=by
  simp only [astep] at he
  split at he
  · rename_i s b hx
    cases he
    have hv:=AR_bool (ev_ug h x hx hs)
    exact Snd.pure h (by simp [execOp,hv,Op.unary]) AR_mkbool
  · rename_i s k n hx
    cases he
    have hv:=AR_int (ev_ug h x hx hs)
    exact Snd.pure h (by simp [execOp,hv,Op.unary,Op.intArith]) AR_mkint
  · cases he
theorem eqCells_cons {z x y:AV} {zs as bs:List AV} {r:Bool} (h:eqCells (z :: zs) (x :: as) (y :: bs) = some r) :
    ∃ r1 r2,eqCell z x y = some r1 ∧ eqCells zs as bs = some r2 ∧ r = (r1 && r2):=by
  simp only [eqCells] at h
  split at h
  · rename_i a b h1 h2
    cases h
    exact ⟨a,b,h1,h2,rfl⟩
  · cases h
theorem eqCells_split:∀ (n:Nat) {zs as bs:List AV} {r:Bool},eqCells zs as bs = some r →
    ∃ r1 r2,eqCells (zs.take n) (as.take n) (bs.take n) = some r1 ∧ eqCells (zs.drop n) (as.drop n) (bs.drop n) = some r2 ∧ r = (r1 && r2)
  | 0,zs,as,bs,r,h => ⟨true,r,by simp [eqCells],by simpa using h,by simp⟩
  | n + 1,[],[],[],r,h => ⟨true,r,by simp [eqCells],by simpa using h,by simp⟩
  | n + 1,z :: zs,x :: xs,y :: ys,r,h => by
    obtain ⟨r1,r2,h1,h2,rfl⟩:=eqCells_cons h
    obtain ⟨r3,r4,h3,h4,rfl⟩:=eqCells_split n h2
    exact ⟨r1 && r3,r4,by simp [eqCells,h1,h3],by simpa using h4,by simp [Bool.and_assoc]⟩
  | _ + 1,[],_ :: _,_,_,h => by simp [eqCells] at h
  | _ + 1,[],[],_ :: _,_,h => by simp [eqCells] at h
  | _ + 1,_ :: _,[],_,_,h => by simp [eqCells] at h
  | _ + 1,_ :: _,_ :: _,[],_,h => by simp [eqCells] at h
theorem run_part_leaf {t:Nat} (ht:(∃ k,P.underlying t = some (.int k)) ∨ P.underlying t = some .bool ∨ P.underlying t = some .string) (cs:Array Value) (off:Nat) (v:Value) (hv:cs[off]? = some v) :
    (part t cs off).run P w = .ok v w:=by
  rcases ht with ⟨k,ht⟩ | ht | ht <;> simp [part,isAgg,run_underlying ht,hv]
theorem run_part_agg {t:Nat} {fs:Array Field} (ht:P.underlying t = some (.struct fs)) (hi:(P.info? t).isSome = true) (cs:Array Value) (off:Nat) :
    (part t cs off).run P w = .ok (.agg (cs.extract off (off + P.cellsOf t))) w:=by
  obtain ⟨i,hi⟩:=Option.isSome_iff_exists.1 hi
  simp [part,isAgg,run_underlying ht,Go.sizeOf,typeInfo,hi,Program.cellsOf]
theorem ARs_extract {U:Nat → Prop} {O:Nat → AObj} {as:List AV} {xs:Array Value} {pos n:Nat} (h:ARs w U O ι as (xs.toList.drop pos)):ARs w U O ι (as.take n) (xs.extract pos (pos + n)).toList:=by
  rw [Array.toList_extract]
  have:=ARs_take h n
  simpa [List.extract,Nat.add_sub_cancel_left] using this
theorem run_eqFs {U:Nat → Prop} {O:Nat → AObj} {d:Nat}
    (ih:∀ (t:Nat) (zs as bs:List AV) (xs ys:Array Value) (r:Bool),eqB P d t zs = true → eqCells zs as bs = some r → ARs w U O ι as xs.toList → ARs w U O ι bs ys.toList → (Op.equalIn d t (.agg xs) (.agg ys)).run P w = .ok r w) (hd:0 < d)
    (xs ys:Array Value):∀ (fs:List Field) (pos:Nat) (zs as bs:List AV) (r:Bool),eqFs P (eqB P d) fs pos zs = true → eqCells zs as bs = some r →
      ARs w U O ι as (xs.toList.drop pos) → ARs w U O ι bs (ys.toList.drop pos) → (Op.eqFields d xs ys fs).run P w = .ok r w
  | [],pos,zs,as,bs,r,hf,he,hx,hy => by
    simp only [eqFs,List.isEmpty_iff] at hf
    subst hf
    cases as <;> cases bs <;> simp [eqCells] at he
    subst he
    simp [Op.eqFields]
  | f :: fs,pos,zs,as,bs,r,hf,he,hx,hy => by
    obtain ⟨d,rfl⟩:∃ m,d = m + 1:=⟨d - 1,by omega⟩
    simp only [eqFs,Bool.and_eq_true,bne_iff_ne,beq_iff_eq] at hf
    obtain ⟨⟨hname,hoff⟩,hf⟩:=hf
    have leaf:∀ (z:AV) (zs':List AV),zs = z :: zs' → eqFs P (eqB P (d + 1)) fs (pos + 1) zs' = true →
        ((∃ k,P.underlying f.type = some (.int k)) ∨ P.underlying f.type = some .bool ∨ P.underlying f.type = some .string) →
        (∀ (x y:AV) (v u:Value) (b:Bool),eqCell z x y = some b → AR w U O ι x v → AR w U O ι y u → (Op.equalIn (d + 1) f.type v u).run P w = .ok b w) →
        (Op.eqFields (d + 1) xs ys (f :: fs)).run P w = .ok r w:=by
      rintro z zs' rfl hrest ht hone
      cases as with
      | nil => simp [eqCells] at he
      | cons x as =>
        cases bs with
        | nil => simp [eqCells] at he
        | cons y bs =>
          obtain ⟨r1,r2,h1,h2,rfl⟩:=eqCells_cons he
          cases hxd:xs.toList.drop pos with
          | nil => rw [hxd] at hx; simp [ARs] at hx
          | cons v vs =>
            cases hyd:ys.toList.drop pos with
            | nil => rw [hyd] at hy; simp [ARs] at hy
            | cons u us =>
              rw [hxd] at hx; rw [hyd] at hy
              simp only [ARs] at hx hy
              have hv:xs[pos]? = some v:=by
                have:(xs.toList.drop pos)[0]? = some v:=by rw [hxd]; rfl
                simpa [List.getElem?_drop] using this
              have hu:ys[pos]? = some u:=by
                have:(ys.toList.drop pos)[0]? = some u:=by rw [hyd]; rfl
                simpa [List.getElem?_drop] using this
              have hvs:xs.toList.drop (pos + 1) = vs:=by rw [← List.drop_drop,hxd]; rfl
              have hus:ys.toList.drop (pos + 1) = us:=by rw [← List.drop_drop,hyd]; rfl
              have hrec:=run_eqFs ih hd xs ys fs (pos + 1) zs' as bs r2 hrest h2 (by rw [hvs]; exact hx.2) (by rw [hus]; exact hy.2)
              have hth:=hone x y v u r1 h1 hx.1 hy.1
              simp only [Op.eqFields,if_pos hname,Sem.run_bind,hoff,run_part_leaf ht xs pos v hv,run_part_leaf ht ys pos u hu,Result.andThen_ok,hth]
              cases r1
              · simp
              · simpa using hrec
    split at hf
    · rename_i _ k k' n zs' hty
      refine leaf _ _ rfl hf (.inl ⟨k,hty⟩) (fun x y v u b hb hv hu => ?_)
      unfold eqCell at hb
      split at hb
      · rename_i h1; cases h1
        split at hb
        · rename_i hk; subst hk; cases hb
          rw [AR_int hv,AR_int hu]; exact run_equalIn_int w d f.type _ _ _ _ hty
        · cases hb
      all_goals first | (cases ‹AV.c _ = AV.c _›; done) | (cases hb; done)
    · rename_i _ k' zs' hty
      refine leaf _ _ rfl hf (.inr (.inl hty)) (fun x y v u b hb hv hu => ?_)
      unfold eqCell at hb
      split at hb
      · rename_i h1; cases h1
      · cases hb
        rw [AR_bool hv,AR_bool hu]; exact run_equalIn_bool' w d f.type _ _ hty
      all_goals first | (cases ‹AV.c _ = AV.c _›; done) | (cases hb; done)
    · rename_i _ k' zs' hty
      refine leaf _ _ rfl hf (.inr (.inr hty)) (fun x y v u b hb hv hu => ?_)
      unfold eqCell at hb
      split at hb
      · rename_i h1; cases h1
      · rename_i h1; cases h1
      · cases hb
        rw [AR_str hv,AR_str hu]; exact run_equalIn_string w d f.type _ _ hty
      · cases hb
    · rename_i fs' zs' hty
      simp only [Bool.and_eq_true,decide_eq_true_eq] at hf
      obtain ⟨⟨⟨hinfo,hle⟩,hsub⟩,hrest⟩:=hf
      obtain ⟨r1,r2,h1,h2,rfl⟩:=eqCells_split (P.cellsOf f.type) he
      have hth:=ih f.type _ _ _ (xs.extract pos (pos + P.cellsOf f.type)) (ys.extract pos (pos + P.cellsOf f.type)) r1 hsub h1 (ARs_extract hx) (ARs_extract hy)
      have hrec:=run_eqFs ih hd xs ys fs (pos + P.cellsOf f.type) _ _ _ r2 hrest h2 (by rw [← List.drop_drop]; exact ARs_drop hx _) (by rw [← List.drop_drop]; exact ARs_drop hy _)
      simp only [Op.eqFields,if_pos hname,Sem.run_bind,hoff,run_part_agg hty hinfo,Result.andThen_ok,hth]
      cases r1
      · simp
      · simpa using hrec
    · cases hf
theorem run_eqB {U:Nat → Prop} {O:Nat → AObj}:∀ (d:Nat) (t:Nat) (zs as bs:List AV) (xs ys:Array Value) (r:Bool),eqB P d t zs = true → eqCells zs as bs = some r →
    ARs w U O ι as xs.toList → ARs w U O ι bs ys.toList → (Op.equalIn d t (.agg xs) (.agg ys)).run P w = .ok r w
  | 0,_,_,_,_,_,_,_,h,_,_,_ => by simp [eqB] at h
  | d + 1,t,zs,as,bs,xs,ys,r,h,he,hx,hy => by
    simp only [eqB,Bool.and_eq_true,Bool.not_eq_true'] at h
    obtain ⟨⟨⟨hd,h0⟩,h1⟩,h2⟩:=h
    have ht:P.underlying t = some (.struct (P.fieldsOf t)):=by
      unfold Program.fieldsOf
      cases hu:P.underlying t with
      | none => rw [hu] at h0; cases h0
      | some d => cases d <;> first | rfl | (rw [hu] at h0; cases h0)
    rw [run_equalIn_struct w d t xs ys ht h1]
    exact run_eqFs (run_eqB d) (by simpa using hd) xs ys _ 0 zs as bs r h2 he (by simpa using hx) (by simpa using hy)
theorem eqFs_mono {f g:Nat → List AV → Bool} (hfg:∀ t zs,f t zs = true → g t zs = true):∀ (fs:List Field) (pos:Nat) (zs:List AV),eqFs P f fs pos zs = true → eqFs P g fs pos zs = true
  | [],pos,zs,h => by simpa only [eqFs] using h
  | x :: fs,pos,zs,h => by
    simp only [eqFs,Bool.and_eq_true] at h ⊢
    obtain ⟨h1,h2⟩:=h
    refine ⟨h1,?_⟩
    split at h2
    · exact eqFs_mono hfg fs _ _ h2
    · exact eqFs_mono hfg fs _ _ h2
    · exact eqFs_mono hfg fs _ _ h2
    · simp only [Bool.and_eq_true] at h2 ⊢
      exact ⟨⟨h2.1.1,hfg _ _ h2.1.2⟩,eqFs_mono hfg fs _ _ h2.2⟩
    · cases h2
theorem eqB_mono:∀ (d:Nat) (t:Nat) (zs:List AV),eqB P d t zs = true → eqB P (d + 1) t zs = true
  | 0,_,_,h => by simp [eqB] at h
  | d + 1,t,zs,h => by
    unfold eqB at h ⊢
    simp only [Bool.and_eq_true] at h ⊢
    exact ⟨⟨⟨by simp,h.1.1.2⟩,h.1.2⟩,eqFs_mono (eqB_mono d) _ _ _ h.2⟩
theorem eqB_le {d d':Nat} (hd:d ≤ d') {t:Nat} {zs:List AV} (h:eqB P d t zs = true):eqB P d' t zs = true:=by
  induction hd with
  | refl => exact h
  | step _ ih => exact eqB_mono _ _ _ ih
end
end Am
namespace Am
open Go
section
variable {P:Program} {T:Ty} {mv:Bool} {C:Ctx} {σ:AEnv} {a:Act} {w:World} {ι:Nat → Value} {Fs:Nat → List Nat} {τ:Nat → AObj} {e:Eff}
variable {dst:Option Tmp} {type:TypeId} {pos:String} {after:Array Edge} {guard:Option (Nat × Bool)}
theorem AR_c {U:Nat → Prop} {O:Nat → AObj} {p:PV} {v:Value}:AR w U O ι (.c p) v ↔ R w U p v []:=by simp only [AR]
theorem snd_binOp (hT:TyOK P T) (h:Sim C σ a w ι Fs) {op:BinOp} {t t':Nat} {x y:Operand} (he:astep T mv (ev σ) τ ⟨dst,.binOp op t x y t',type,pos,after,guard⟩ = some e) (hs:e.side) :
    Snd P C σ a w ⟨dst,.binOp op t x y t',type,pos,after,guard⟩ e:=by
  simp only [astep] at he
  split at he
  · rename_i s1 b1 s2 b2 h1 h2
    split at he
    · rename_i _ _ _ z0 z1 hl
      cases he
      have e1:=AR_bool (ev_ug h x h1 hs.1)
      have e2:=AR_bool (ev_ug h y h2 hs.2)
      have ht:=(hT.m hl).bool rfl
      exact Snd.pure h (by simp [execOp,e1,e2,eqGuard,binOp,Op.equal,Op.maxDepth,run_equalIn_bool' w 9999 t _ _ ht]) AR_mkbool
    · rename_i _ _ _ z0 z1 hl
      cases he
      have e1:=AR_bool (ev_ug h x h1 hs.1)
      have e2:=AR_bool (ev_ug h y h2 hs.2)
      have ht:=(hT.m hl).bool rfl
      exact Snd.pure h (by simp [execOp,e1,e2,eqGuard,binOp,Op.equal,Op.maxDepth,run_equalIn_bool' w 9999 t _ _ ht]) AR_mkbool
    · cases he
  · rename_i s1 p s2 q _ h1 h2
    split at he
    · rename_i s r hb
      cases he
      obtain ⟨hs1,hs2,hs3⟩:=hs
      obtain ⟨v,hr,hv⟩:=abin_run (P:=P) (t:=t) (AR_c.1 (ev_ug h x h1 hs1)) (AR_c.1 (ev_ug h y h2 hs2)) hb hs3 x y
      refine Snd.pure h (v:=v) ?_ (AR_c.2 hv)
      simp only [execOp,Sem.run_bind,hr,Result.andThen_ok,Sem.run_pure]
    · cases he
  · rename_i s1 xs s2 ys h1 h2
    split at he
    · rename_i fs z0 z1 zero hl
      have hM:=hT.m hl
      obtain ⟨hq1,hq2⟩:=hM.eq rfl
      split at he
      · rename_i _ r hr
        cases he
        have g1:=ev_ug h x h1 hs.1
        have g2:=ev_ug h y h2 hs.2
        simp only [AR] at g1 g2
        obtain ⟨vs,e1,g1⟩:=g1
        obtain ⟨us,e2,g2⟩:=g2
        have hrun:=run_eqB (P:=P) 10000 t zero xs ys vs us r (eqB_le (by omega) hq1) hr g1 g2
        refine Snd.pure h (v:=.bool r) ?_ AR_mkbool
        simp only [execOp,e1,e2,Sem.run_bind,run_eqGuard_agg w _ t x y vs us hq2,Result.andThen_ok,run_eql_struct,hrun,Sem.run_pure]
      · rename_i _ r hr
        cases he
        have g1:=ev_ug h x h1 hs.1
        have g2:=ev_ug h y h2 hs.2
        simp only [AR] at g1 g2
        obtain ⟨vs,e1,g1⟩:=g1
        obtain ⟨us,e2,g2⟩:=g2
        have hrun:=run_eqB (P:=P) 10000 t zero xs ys vs us r (eqB_le (by omega) hq1) hr g1 g2
        refine Snd.pure h (v:=.bool (!r)) ?_ AR_mkbool
        simp only [execOp,e1,e2,Sem.run_bind,run_eqGuard_agg w _ t x y vs us hq2,Result.andThen_ok,run_neq_struct,hrun,Sem.run_pure]
      · cases he
    · cases he
  · cases he
theorem lenA_len {U:Nat → Prop} (h:Sim C σ a w ι Fs) {y:AV} {v:Value} {n:Nat} (ha:Agr σ.o τ) (hl:lenA τ y = some n) (hy:AR w (Un C w Fs) σ.o ι y v):∃ b c,v = .slice b n c:=by
  unfold lenA at hl
  split at hl
  · cases hl
    simp only [AR,R] at hy
    obtain ⟨_,a,cap,hv,_⟩:=hy
    exact ⟨a,cap,hv⟩
  · cases hl
    simp only [AR] at hy
    exact ⟨none,0,hy⟩
  · rename_i o
    split at hl
    · rename_i g0 ety esz m cs hτ
      cases hl
      obtain ⟨ho,hv⟩:=agr_arr ha hy hτ
      have hob:=h.ob o
      rw [ho] at hob
      obtain ⟨xs,F',hown,_⟩:=hob
      subst hv
      rcases hown.2 with ⟨hv,rfl⟩ | ⟨g,cap,cur,hv,_⟩
      · exact ⟨none,0,hv⟩
      · exact ⟨_,_,hv⟩
    · cases hl
  · rename_i o gq off
    split at hl
    · rename_i g' ety esz m cs hτ
      by_cases hgg:¬ gq = g'
      · rw [if_neg hgg] at hl; cases hl
      have hgg:=Decidable.not_not.1 hgg
      rw [if_pos hgg] at hl
      split at hl
      · rename_i e1 s1 n1 c1 hcs
        cases hl
        obtain ⟨ho,hv⟩:=agr_inr ha hy hτ
        obtain ⟨k,hk,hc⟩:=hv hgg ⟨_,_,_,_,hcs⟩
        have hob:=h.ob o
        rw [ho] at hob
        obtain ⟨xs,F',hown,hrs,_⟩:=hob
        obtain ⟨u,F1,hu,hr,_⟩:=Rs_get hrs hcs
        have hcell:=hown.cells hk off u hu
        have hadd:(⟨k,0,none⟩:Addr).add off = ⟨k,off,none⟩:=by unfold Addr.add; split <;> simp_all
        rw [hadd,hc] at hcell
        cases hcell
        simp only [R] at hr
        obtain ⟨xs1,F2,ho1,_⟩:=hr
        rcases ho1.2 with ⟨hv,rfl⟩ | ⟨g,cap,cur,hv,_⟩
        · exact ⟨none,0,hv⟩
        · exact ⟨_,_,hv⟩
      · cases hl
    · cases hl
  · cases hl
theorem snd_len (hT:TyOK P T) (h:Sim C σ a w ι Fs) (ha:Agr σ.o τ) {x:Operand} {t:Nat} (he:astep T mv (ev σ) τ ⟨dst,.call ⟨.builtin .len,#[x],#[t]⟩,type,pos,after,guard⟩ = some e) (hs:e.side) :
    Snd P C σ a w ⟨dst,.call ⟨.builtin .len,#[x],#[t]⟩,type,pos,after,guard⟩ e:=by
  simp only [astep,List.map,abuiltin] at he
  split at he
  · rename_i z0 z1 z2 z3 hl
    have ht:=(hT.m hl).str rfl
    split at he
    · rename_i s b hx
      cases he
      have hv:=AR_str (ev_ug h x hx hs)
      exact Snd.pure h (by simp [execOp,resolve,invoke,builtin,Builtin.len_,run_underlying ht,hv,goInt]) AR_mkint
    · cases he
  · rename_i z z0 z1 z2 z3 hl
    have ht:=(hT.m hl).slice rfl
    split at he
    · rename_i n hn
      cases he
      obtain ⟨b,c,hv⟩:=lenA_len (U:=Un C w Fs) h ha hn (ev_ug h x (s:=(ev σ x).ug.1) (y:=(ev σ x).ug.2) rfl hs)
      exact Snd.pure h (by simp [execOp,resolve,invoke,builtin,Builtin.len_,run_underlying ht,hv,goInt]) AR_mkint
    · cases he
  · cases he
theorem snd_max (h:Sim C σ a w ι Fs) {x y:Operand} {ts:Array TypeId} (he:astep T mv (ev σ) τ ⟨dst,.call ⟨.builtin .max,#[x,y],ts⟩,type,pos,after,guard⟩ = some e) (hs:e.side) :
    Snd P C σ a w ⟨dst,.call ⟨.builtin .max,#[x,y],ts⟩,type,pos,after,guard⟩ e:=by
  simp only [astep,List.map,abuiltin] at he
  split at he
  · rename_i s k n s2 k2 m h1 h2
    cases he
    have e1:=AR_int (ev_ug h x h1 hs.1)
    have e2:=AR_int (ev_ug h y h2 hs.2)
    exact Snd.pure h (by simp [execOp,resolve,invoke,builtin,Builtin.max_,Builtin.max2,e1,e2]) AR_mkint
  · cases he
theorem snd_min (h:Sim C σ a w ι Fs) {x y:Operand} {ts:Array TypeId} (he:astep T mv (ev σ) τ ⟨dst,.call ⟨.builtin .min,#[x,y],ts⟩,type,pos,after,guard⟩ = some e) (hs:e.side) :
    Snd P C σ a w ⟨dst,.call ⟨.builtin .min,#[x,y],ts⟩,type,pos,after,guard⟩ e:=by
  simp only [astep,List.map,abuiltin] at he
  split at he
  · rename_i s k n s2 k2 m h1 h2
    cases he
    have e1:=AR_int (ev_ug h x h1 hs.1)
    have e2:=AR_int (ev_ug h y h2 hs.2)
    exact Snd.pure h (by simp [execOp,resolve,invoke,builtin,Builtin.min_,Builtin.min2,e1,e2]) AR_mkint
  · cases he
theorem snd_extract (h:Sim C σ a w ι Fs) {x:Operand} {i:Nat} (he:astep T mv (ev σ) τ ⟨dst,.extract x i,type,pos,after,guard⟩ = some e) :
    Snd P C σ a w ⟨dst,.extract x i,type,pos,after,guard⟩ e:=by
  have hx:=ev_AR h x
  simp only [astep] at he
  split at he
  · rename_i vs hv
    split at he
    · rename_i v hi
      cases he
      rw [hv] at hx
      simp only [AR] at hx
      obtain ⟨us,hu,hr⟩:=hx
      obtain ⟨u,hui,hur⟩:=ARs_get hr hi
      refine Snd.pure h (v:=u) ?_ hur
      have:us[i]? = some u:=by simpa using hui
      simp [execOp,Instr.extract,hu,this]
    · cases he
  · cases he
theorem snd_index (hT:TyOK P T) (h:Sim C σ a w ι Fs) {t:Nat} {x ix:Operand} (he:astep T mv (ev σ) τ ⟨dst,.index t x ix,type,pos,after,guard⟩ = some e) (hs:e.side) :
    Snd P C σ a w ⟨dst,.index t x ix,type,pos,after,guard⟩ e:=by
  simp only [astep] at he
  split at he
  · rename_i z0 z1 z2 z3 s b s2 k n hl h1 h2
    cases he
    obtain ⟨hs1,hs2,h0,hn⟩:=hs
    have ht:=(hT.m hl).str rfl
    have e1:=AR_str (ev_ug h x h1 hs1)
    have e2:=AR_int (ev_ug h ix h2 hs2)
    have hlt:n.toNat < b.size:=by omega
    have hb:b[n.toNat]? = some b[n.toNat]:=by simp [hlt]
    refine Snd.pure h (v:=.int .u8 (bt b n)) ?_ AR_mkint
    have hbt:bt b n = (b[n.toNat].toNat:Int):=by
      unfold bt
      have:b.data.toList.getD n.toNat 0 = b[n.toNat]:=by
        have h3:n.toNat < b.data.size:=hlt
        simp only [List.getD,Array.getElem?_toList,Array.getElem?_eq_getElem h3,Option.getD_some]
        rfl
      rw [this]
    simp [execOp,Instr.index,asIntOf,e1,e2,run_underlying ht,h0,hb,hbt]
  · cases he
theorem fieldAt_run {t:Nat} {fs:List (Nat × Nat)} (hM:∃ fields:Array Field,P.underlying t = some (.struct fields) ∧ (fields.toList.map fun f => (f.offset,f.type)) = fs) {f fo ft:Nat} {i:TyI} (hf:fs[f]? = some (fo,ft))
    (hft:TyM P ft i) (hi:i.size ≠ 0) (b:Nat) (off:Nat):(Instr.fieldAt t (.pointer (some ⟨b,off,none⟩)) f).run P w = .ok (.pointer (some ⟨b,off + fo,none⟩)) w:=by
  obtain ⟨fields,ht,hmap⟩:=hM
  subst hmap
  rw [List.getElem?_map] at hf
  cases hq:fields.toList[f]? with
  | none => rw [hq] at hf; cases hf
  | some fl =>
    rw [hq] at hf
    simp only [Option.map_some,Option.some.injEq,Prod.mk.injEq] at hf
    obtain ⟨rfl,rfl⟩:=hf
    have hq':fields[f]? = some fl:=by simpa using hq
    have hz:=hft.run_sizeOf w
    have hadd:(⟨b,off,none⟩:Addr).add fl.offset = ⟨b,off + fl.offset,none⟩:=by unfold Addr.add; split <;> simp_all
    simp [Instr.fieldAt,run_underlying ht,hq',Instr.sureAddr,fieldPlace,hz,hi,hadd]
theorem snd_fieldAddr (hT:TyOK P T) (h:Sim C σ a w ι Fs) (ha:Agr σ.o τ) {t f:Nat} {x:Operand} (he:astep T mv (ev σ) τ ⟨dst,.fieldAddr t x f,type,pos,after,guard⟩ = some e) (hs:e.side) :
    Snd P C σ a w ⟨dst,.fieldAddr t x f,type,pos,after,guard⟩ e:=by
  simp only [astep] at he
  split at he
  · rename_i fs z1 z2 z3 z4 hl
    have hM:=(hT.m hl).struct rfl
    split at he
    · rename_i fo ft hf
      split at he
      · rename_i i hlf
        have hft:=hT.m hlf
        split at he
        · cases he
        · rename_i hi
          split at he
          · rename_i s b off hx
            split at he
            · rename_i cs hτ
              cases he
              obtain ⟨ho,k,hk,hv⟩:=agr_box ha (ev_ug h x hx hs) hτ
              refine Snd.pure h (v:=.pointer (some ⟨k,off + fo,none⟩)) ?_ ?_
              · simp [execOp,hv,fieldAt_run hM hf hft hi k off]
              · simp only [AR,ho]; exact ⟨k,hk,rfl⟩
            · cases he
          · rename_i s b off hx
            split at he
            · rename_i e1 s1 n1 cs hτ
              cases he
              obtain ⟨ho,k,hk,hv⟩:=agr_pa ha (ev_ug h x hx hs) hτ
              refine Snd.pure h (v:=.pointer (some ⟨k,off + fo,none⟩)) ?_ ?_
              · simp [execOp,hv,fieldAt_run hM hf hft hi k off]
              · simp only [AR,ho]; exact ⟨k,hk,rfl⟩
            · cases he
          · rename_i s cs off hx
            cases he
            have hv:=ev_ug h x hx hs
            simp only [AR] at hv
            obtain ⟨b,o0,xs,hv,hU,hm,hr⟩:=hv
            refine Snd.pure h (v:=.pointer (some ⟨b,o0 + off + fo,none⟩)) ?_ ?_
            · simp [execOp,hv,fieldAt_run hM hf hft hi b (o0 + off)]
            · simp only [AR]; exact ⟨b,o0,xs,by rw [Nat.add_assoc],hU,hm,hr⟩
          · cases he
      · cases he
    · cases he
  · cases he
theorem indexAt_run {t el:Nat} (ht:P.underlying t = some (.slice el)) {i:TyI} (hi:TyM P el i) {k:IntKind} {n:Int} {b o m c:Nat} (h0:0 ≤ n) (hn:n < m) :
    (Instr.indexAt t (.slice (some ⟨b,o,none⟩) m c) (.int k n)).run P w = .ok (.pointer (some ⟨b,o + n.toNat * i.size,none⟩)) w:=by
  have hz:=hi.run_sizeOf w
  have hadd:(⟨b,o,none⟩:Addr).add (n.toNat * i.size) = ⟨b,o + n.toNat * i.size,none⟩:=by unfold Addr.add; split <;> simp_all
  simp [Instr.indexAt,asIntOf,run_underlying ht,h0,hn,hz,hadd]
theorem snd_indexAddr (hT:TyOK P T) (h:Sim C σ a w ι Fs) (ha:Agr σ.o τ) {t:Nat} {x ix:Operand} (he:astep T mv (ev σ) τ ⟨dst,.indexAddr t x ix,type,pos,after,guard⟩ = some e) (hs:e.side) :
    Snd P C σ a w ⟨dst,.indexAddr t x ix,type,pos,after,guard⟩ e:=by
  simp only [astep] at he
  split at he
  · rename_i el z1 z2 z3 z4 hl
    have ht:=(hT.m hl).slice rfl
    split at he
    · rename_i i s2 k n hle hix
      have hi:=hT.m hle
      split at he
      · rename_i s m cs hx
        cases he
        obtain ⟨hs1,hs2,h0,hn,hc⟩:=hs
        have hv:=ev_ug h x hx hs1
        have e2:=AR_int (ev_ug h ix hix hs2)
        simp only [AR,R] at hv
        obtain ⟨_,ad,cap,hv,_,hv2⟩:=hv
        rcases hv2 with hv2 | ⟨b,off,xs,rfl,hU,hm,hr⟩
        · exact absurd hv2 hc
        · refine Snd.pure h (v:=.pointer (some ⟨b,off + n.toNat * i.size,none⟩)) ?_ ?_
          · simp [execOp,hv,e2,indexAt_run ht hi h0 hn]
          · simp only [AR]; exact ⟨b,off,xs,rfl,hU,hm,hr⟩
      · rename_i s b hx
        split at he
        · rename_i e1 s1 m cs hτ
          cases he
          obtain ⟨hs1,hs2,h0,hn⟩:=hs
          obtain ⟨ho,hv⟩:=agr_arr ha (ev_ug h x hx hs1) hτ
          have e2:=AR_int (ev_ug h ix hix hs2)
          have hob:=h.ob b
          rw [ho] at hob
          obtain ⟨xs,F',hown,_⟩:=hob
          rcases hown.2 with ⟨_,rfl⟩ | ⟨g,cap,cur,hv',_⟩
          · omega
          · refine Snd.pure h (v:=.pointer (some ⟨g,0 + n.toNat * i.size,none⟩)) ?_ ?_
            · simp only [execOp,hv,hv',e2,Sem.run_bind,indexAt_run ht hi h0 hn,Result.andThen_ok,Sem.run_pure]
            · simp only [AR,ho]; exact ⟨g,by rw [hv']; rfl,by rw [Nat.zero_add]⟩
        · cases he
      · cases he
    · cases he
  · cases he
end
end Am
namespace Am
open Go
section
variable {P:Program} {T:Ty} {mv:Bool} {C:Ctx} {σ:AEnv} {a:Act} {w:World} {ι:Nat → Value} {Fs:Nat → List Nat} {τ:Nat → AObj} {e:Eff}
variable {dst:Option Tmp} {type:TypeId} {pos:String} {after:Array Edge} {guard:Option (Nat × Bool)}
theorem sliceBounds_run (isSlice:Bool) (len cap:Nat) (hlc:len ≤ cap) (lo hi:Option Value) (l h:Int) (kl kh:IntKind)
    (hlo:(lo = none ∧ l = 0) ∨ lo = some (.int kl l)) (hhi:(hi = none ∧ h = len) ∨ hi = some (.int kh h)) (h0:0 ≤ l) (h1:l ≤ h) (h2:h ≤ len) :
    (Instr.sliceBounds isSlice len cap lo hi none).run P w = .ok (l.toNat,h.toNat,cap) w:=by
  have e1:h ≤ (cap:Int):=by omega
  have e2:0 ≤ h:=by omega
  have e3:l ≤ max h 0:=by omega
  rcases hlo with ⟨rfl,rfl⟩ | rfl <;> rcases hhi with ⟨rfl,rfl⟩ | rfl <;>
    simp [Instr.sliceBounds,Instr.sliceBound,asIntOf,e1,e2,h0,h1,h2,e3]
theorem memAt_drop {b off:Nat} {xs:List Value} (h:memAt w b off xs) (n:Nat):memAt w b (off + n) (xs.drop n):=fun j u hu => by
  rw [List.getElem?_drop] at hu
  have:=h (n + j) u hu
  rwa [← Nat.add_assoc] at this
theorem memAt_take {b off:Nat} {xs:List Value} (h:memAt w b off xs) (n:Nat):memAt w b off (xs.take n):=fun j u hu => by
  rw [List.getElem?_take] at hu
  split at hu
  · exact h j u hu
  · cases hu
theorem Rs_take {U:Nat → Prop} {ps:List PV} {vs:List Value} (h:Rs w U ps vs []) (n:Nat):Rs w U (ps.take n) (vs.take n) []:=by
  obtain ⟨F1,F2,h1,_,hF⟩:=Rs_split n ps vs [] h
  have:F1 = []:=(List.append_eq_nil_iff.1 hF.symm).1
  rwa [this] at h1
theorem Rs_drop {U:Nat → Prop} {ps:List PV} {vs:List Value} (h:Rs w U ps vs []) (n:Nat):Rs w U (ps.drop n) (vs.drop n) []:=by
  obtain ⟨F1,F2,_,h2,hF⟩:=Rs_split n ps vs [] h
  have:F2 = []:=(List.append_eq_nil_iff.1 hF.symm).2
  rwa [this] at h2
theorem bnd_run (h:Sim C σ a w ι Fs) {x:Option Operand} {d:Int} {s:Prop} {k:IntKind} {n:Int} (he:bnd (ev σ) d x = (s,.c (.int k n))) (hs:s) :
    (x.map a.eval = none ∧ n = d) ∨ x.map a.eval = some (.int k n):=by
  cases x with
  | none => simp only [bnd,Prod.mk.injEq,AV.c.injEq,PV.int.injEq] at he; exact .inl ⟨rfl,he.2.2.symm⟩
  | some x => simp only [bnd] at he; exact .inr (by rw [Option.map_some,AR_int (ev_ug h x he hs)])
theorem snd_convert_int (hT:TyOK P T) (h:Sim C σ a w ι Fs) {s t:Nat} {x:Operand} {z0 z1:Nat} {z2:List AV} {z3:Bool} {k k' k2:IntKind} {y0 y1:Nat} {y2:List AV} {y3:Bool} {n:Int} {sd:Prop}
    (h1:T.lookup s = some ⟨.int k,z0,z1,z2,z3⟩) (h2:T.lookup t = some ⟨.int k',y0,y1,y2,y3⟩) (hx:(ev σ x).ug = (sd,.c (.int k2 n))) (hs:sd) :
    Snd P C σ a w ⟨dst,.convert s t x,type,pos,after,guard⟩ ⟨sd,.c (.int k' (k'.wrap n)),[]⟩:=by
  have e1:=(hT.m h1).int rfl
  have e2:=(hT.m h2).int rfl
  have hv:=AR_int (ev_ug h x hx hs)
  exact Snd.pure h (by simp [execOp,Go.convert,run_underlying e1,run_underlying e2,hv,Conv.intToInt]) AR_mkint
end
end Am
namespace Am
open Go
section
variable {P:Program} {T:Ty} {mv:Bool} {C:Ctx} {σ:AEnv} {a:Act} {w:World} {ι:Nat → Value} {Fs:Nat → List Nat} {τ:Nat → AObj} {e:Eff}
variable {dst:Option Tmp} {type:TypeId} {pos:String} {after:Array Edge} {guard:Option (Nat × Bool)}
theorem addr_add (b off n:Nat):(⟨b,off,none⟩:Addr).add n = ⟨b,off + n,none⟩:=by unfold Addr.add; split <;> simp_all
theorem loadAt_struct {t:Nat} {i:TyI} (hi:TyM P t i) {fs:List (Nat × Nat)} (hk:i.k = .struct fs) {b off:Nat} {xs:List Value} (hm:memAt w b off xs) (hl:i.size ≤ xs.length) :
    (Instr.loadAt t (.pointer (some ⟨b,off,none⟩))).run P w = .ok (.agg (xs.take i.size).toArray) w:=by
  have h1:=hi.run_isAgg w (by rw [hk]; simp)
  rw [hk] at h1
  have hz:=hi.run_sizeOf w
  have hlen:(xs.take i.size).length = i.size:=by simp [hl]
  have hld:=run_loadCells_list (P:=P) w ⟨b,off,none⟩ (xs.take i.size) (fun j v hj => by rw [addr_add]; exact memAt_take hm _ j v hj)
  rw [hlen] at hld
  simp [Instr.loadAt,Instr.sureAddr,loadVar,h1,hz,hld]
theorem loadAt_cell {t:Nat} {i:TyI} (hi:TyM P t i) (hk:i.k ≠ .other) (hk':∀ fs,i.k ≠ .struct fs) {b off:Nat} {v:Value} (hc:w.cell? ⟨b,off,none⟩ = some v) :
    (Instr.loadAt t (.pointer (some ⟨b,off,none⟩))).run P w = .ok v w:=by
  have h1:(isAgg t).run P w = .ok false w:=by
    rw [hi.run_isAgg w hk]
    congr 1
    split
    · rename_i fs hfs; exact absurd hfs (hk' fs)
    · rfl
  simp [Instr.loadAt,Instr.sureAddr,loadVar,h1,hc]
theorem box_mem (h:Sim C σ a w ι Fs) {b:Nat} {cs:List AV} (ho:σ.o b = .box cs) {k:Nat} (hk:ι b = .pointer (some ⟨k,0,none⟩)) :
    ∃ vals ty,w.heap[k]? = some (.cells vals ty (0,0)) ∧ memAt w k 0 vals.toList ∧ ARs w (Un C w Fs) σ.o ι cs vals.toList ∧ (∀ x ∈ vals.toList,x.oneCell' = true) ∧ Fs b = [k]:=by
  have hob:=h.ob b
  rw [ho] at hob
  obtain ⟨k',vals,ty,hv,hh,hr,h1,hF⟩:=hob
  rw [hk] at hv
  cases hv
  refine ⟨vals,ty,hh,fun j u hu => ?_,hr,h1,hF⟩
  rw [Nat.zero_add]
  simp only [World.cell?,hh]
  simpa using hu
theorem arr_mem (h:Sim C σ a w ι Fs) {b:Nat} {g e s n:Nat} {cs:List PV} (ho:σ.o b = .arr g e s n cs) {k:Nat} (hk:(ι b).ownBlock = some k) :
    ∃ xs F',w.ownsRow 0 e s (ι b) n xs ∧ memAt w k 0 xs ∧ Rs w (Un C w Fs) cs xs F' ∧ Fs b = k :: F':=by
  have hob:=h.ob b
  rw [ho] at hob
  obtain ⟨xs,F',hown,hr,hF⟩:=hob
  refine ⟨xs,F',hown,fun j u hu => ?_,hr,by rw [hF,hk]; rfl⟩
  have:=hown.cells hk j u hu
  rwa [addr_add] at this
theorem R_free {U:Nat → Prop} {p:PV} {v:Value} {F:List Nat} (h:R w U p v F) (hp:isFree p = true):F = []:=by
  cases p with
  | int k n => simp only [R] at h; exact h.2
  | bool b => simp only [R] at h; exact h.2
  | str s => simp only [R] at h; exact h.2
  | im n cs => simp only [R] at h; exact h.1
  | ow e s n cs => simp [isFree] at hp
  | any => simp only [R] at h; exact h.2
  | tk u => simp only [R] at h; exact h.2.2
theorem Rs_free {U:Nat → Prop}:∀ {ps:List PV} {vs:List Value} {F:List Nat},Rs w U ps vs F → ps.all isFree = true → F = []
  | [],[],F,h,_ => by simpa only [Rs] using h
  | p :: ps,v :: vs,F,h,hp => by
    simp only [Rs] at h
    obtain ⟨F1,F2,h1,h2,rfl⟩:=h
    simp only [List.all_cons,Bool.and_eq_true] at hp
    rw [R_free h1 hp.1,Rs_free h2 hp.2]
    rfl
  | [],_ :: _,_,h,_ => by simp only [Rs] at h
  | _ :: _,[],_,h,_ => by simp only [Rs] at h
theorem ofPV_AR {b:Nat} {g e s n:Nat} {cs:List PV} (ho:σ.o b = .arr g e s n cs) {U:Nat → Prop} {k:Nat} (hk:(ι b).ownBlock = some k) {off:Nat} {p:PV} {v:Value} {F:List Nat}
    (hr:R w U p v F) (hc:w.cell? ⟨k,off,none⟩ = some v):AR w U σ.o ι (ofPV b g off p) v:=by
  unfold ofPV
  split
  · simp only [AR,ho]
    exact ⟨Nat.le_refl _,fun _ _ => ⟨k,hk,hc⟩⟩
  · rename_i hp
    have hf:isFree p = true:=by
      cases p <;> first | rfl | (exact absurd rfl (hp _ _ _ _))
    have:=R_free hr hf
    subst this
    exact AR_c.2 hr
theorem ofPVs_ARs {b:Nat} {g e s n:Nat} {cs:List PV} (ho:σ.o b = .arr g e s n cs) {U:Nat → Prop} {k:Nat} (hk:(ι b).ownBlock = some k):∀ {ps:List PV} {vs:List Value} {off:Nat} {F:List Nat},
    Rs w U ps vs F → memAt w k off vs → ARs w U σ.o ι (ofPVs b g off ps) vs
  | [],[],_,_,_,_ => by simp [ofPVs,ARs]
  | p :: ps,v :: vs,off,F,hr,hm => by
    simp only [Rs] at hr
    obtain ⟨F1,F2,h1,h2,_⟩:=hr
    simp only [ofPVs,ARs]
    refine ⟨ofPV_AR ho hk h1 (by simpa using hm 0 v rfl),ofPVs_ARs ho hk h2 (fun j u hu => ?_)⟩
    have:=hm (j + 1) u (by simpa using hu)
    rwa [show off + (j + 1) = off + 1 + j by omega] at this
  | [],_ :: _,_,_,h,_ => by simp only [Rs] at h
  | _ :: _,[],_,_,h,_ => by simp only [Rs] at h
theorem map_c_ARs {U:Nat → Prop} {O:Nat → AObj}:∀ {ps:List PV} {vs:List Value},Rs w U ps vs [] → ARs w U O ι (ps.map .c) vs
  | [],[],_ => by simp [ARs]
  | p :: ps,v :: vs,h => by
    simp only [Rs] at h
    obtain ⟨F1,F2,h1,h2,hF⟩:=h
    obtain ⟨rfl,rfl⟩:=List.append_eq_nil_iff.1 hF.symm
    simp only [List.map_cons,ARs]
    exact ⟨AR_c.2 h1,map_c_ARs h2⟩
  | [],_ :: _,h => by simp only [Rs] at h
  | _ :: _,[],h => by simp only [Rs] at h
theorem AR_any_of {U:Nat → Prop} {p:PV} {v:Value} {F:List Nat} (h:R w U p v F):R w U .any v []:=by
  simp only [R]; exact ⟨R_oneCell h,trivial⟩
theorem Rs_U1 {U U':Nat → Prop} (hU:∀ k,U k → U' k) {p:PV} {v:Value} {F:List Nat} (h:R w U p v F):R w U' p v F:=R_mono hU (fun _ _ => rfl) p v F h (fun _ _ => rfl)
theorem Rs_at {U:Nat → Prop}:∀ {ps:List PV} {vs:List Value} {F:List Nat} {j:Nat} {p:PV},Rs w U ps vs F → ps[j]? = some p →
    ∃ v F1 F2 F3,vs[j]? = some v ∧ R w U p v F2 ∧ F = F1 ++ F2 ++ F3 ∧ (∀ (w':World) (U':Nat → Prop) (q:PV),(∀ (ps':List PV) (vs':List Value) (F':List Nat),Rs w U ps' vs' F' → Rs w' U' ps' vs' F') → R w' U' q v [] → Rs w' U' (ps.set j q) vs (F1 ++ F3))
  | [],_,_,j,p,_,h => by simp at h
  | q :: ps,[],_,_,_,h,_ => by simp only [Rs] at h
  | q :: ps,v :: vs,F,j,p,h,hp => by
    simp only [Rs] at h
    obtain ⟨G1,G2,h1,h2,rfl⟩:=h
    cases j with
    | zero =>
      simp at hp
      subst hp
      refine ⟨v,[],G1,G2,rfl,h1,by simp,fun w' U' r hm hr => ?_⟩
      simp only [List.set_cons_zero,Rs]
      exact ⟨[],G2,hr,hm _ _ _ h2,rfl⟩
    | succ j =>
      obtain ⟨u,F1,F2,F3,e1,e2,rfl,e3⟩:=Rs_at h2 (by simpa using hp)
      refine ⟨u,G1 ++ F1,F2,F3,by simpa using e1,e2,by simp,fun w' U' r hm hr => ?_⟩
      simp only [List.set_cons_succ,Rs]
      have hq:=hm [q] [v] G1 (by simp only [Rs]; exact ⟨G1,[],h1,rfl,by simp⟩)
      simp only [Rs] at hq
      obtain ⟨H1,H2,g1,g2,g3⟩:=hq
      subst g2
      rw [List.append_nil] at g3
      subst g3
      exact ⟨G1,F1 ++ F3,g1,e3 w' U' r hm hr,by simp⟩
def nupd {α:Type} (f:Nat → α) (k:Nat) (x:α):Nat → α:=fun i => if i = k then x else f i
theorem nupd_same {α:Type} (f:Nat → α) (k:Nat) (x:α):nupd f k x k = x:=if_pos rfl
theorem nupd_ne {α:Type} (f:Nat → α) {k i:Nat} (h:i ≠ k) (x:α):nupd f k x i = f i:=if_neg h
theorem Sim.take1 (h:Sim C σ a w ι Fs) {b g e s n:Nat} {cs:List PV} (ho:σ.o b = .arr g e s n cs) {j k e1 s1 n1:Nat} {c1:List PV} (hj:cs[j]? = some (.ow e1 s1 n1 c1)) (hk:σ.o k = .none) :
    ∃ ι' Fs',Sim C ((σ.upd k (.arr 0 e1 s1 n1 c1)).upd b (.arr g e s n (cs.set j .any))) a w ι' Fs' ∧ Later w w (Un C w Fs) (Un C w Fs') σ.o ((σ.upd k (.arr 0 e1 s1 n1 c1)).upd b (.arr g e s n (cs.set j .any))).o ι ι' ∧
      (∀ blk,(ι b).ownBlock = some blk → w.cell? ⟨blk,j,none⟩ = some (ι' k)) ∧ ι' b = ι b:=by
  have hkb:k ≠ b:=fun hkb => by subst hkb; rw [hk] at ho; cases ho
  have hob:=h.ob b
  rw [ho] at hob
  obtain ⟨xs,F',hown,hr,hF⟩:=hob
  obtain ⟨v,F1,F2,F3,hv,hR,rfl,hset⟩:=Rs_at hr hj
  have hnd:=h.nd b
  rw [hF] at hnd
  have hFk:Fs k = Fs k:=rfl
  let ι':=nupd ι k v
  let Fs':=nupd (nupd Fs b ((ι b).ownBlock.toList ++ (F1 ++ F3))) k F2
  have hFb:Fs' b = (ι b).ownBlock.toList ++ (F1 ++ F3):=by show nupd _ _ _ b = _; rw [nupd_ne _ (Ne.symm hkb),nupd_same]
  have hFk:Fs' k = F2:=nupd_same _ _ _
  have hFo:∀ o,o ≠ k → o ≠ b → Fs' o = Fs o:=fun o h1 h2 => by show nupd _ _ _ o = _; rw [nupd_ne _ h1,nupd_ne _ h2]
  have hsubb:∀ z,z ∈ Fs' b → z ∈ Fs b:=fun z hz => by
    rw [hFb] at hz; rw [hF]
    simp only [List.mem_append] at hz ⊢
    rcases hz with hz | hz | hz
    · exact .inl hz
    · exact .inr (.inl (.inl hz))
    · exact .inr (.inr hz)
  have hsubk:∀ z,z ∈ F2 → z ∈ Fs b:=fun z hz => by rw [hF]; simp [hz]
  have hU:∀ z,Un C w Fs z → Un C w Fs' z:=fun z hz => ⟨hz.1,hz.2.1,fun o hzo => by
    by_cases h1:o = k
    · subst h1; rw [hFk] at hzo; exact hz.2.2 b (hsubk z hzo)
    · by_cases h2:o = b
      · subst h2; exact hz.2.2 o (hsubb z hzo)
      · rw [hFo o h1 h2] at hzo; exact hz.2.2 o hzo⟩
  have hO:∀ x,((σ.upd k (.arr 0 e1 s1 n1 c1)).upd b (.arr g e s n (cs.set j .any))).o x = if x = b then .arr g e s n (cs.set j .any) else if x = k then .arr 0 e1 s1 n1 c1 else σ.o x:=fun x => rfl
  have hnd2:(F1 ++ F2 ++ F3).Nodup:=(List.nodup_append.1 hnd).2.1
  have hnd3:=List.nodup_append.1 hnd2
  have M:Move C σ.o ((σ.upd k (.arr 0 e1 s1 n1 c1)).upd b (.arr g e s n (cs.set j .any))).o w w ι ι' Fs Fs' (fun o => o = k ∨ o = b):=by
    refine ⟨rfl,Tp.refl _,rfl,Nat.le_refl _,fun _ _ _ => rfl,fun o hX => ?_,fun o hX => ?_,fun o hX => ?_,fun o hX => ?_,fun o hX z hz => ?_,fun o o' hX hX' hne z hz hz' => ?_⟩
    · have h1:o ≠ k:=fun e => hX (.inl e)
      have h2:o ≠ b:=fun e => hX (.inr e)
      exact ⟨by rw [hO,if_neg h2,if_neg h1],nupd_ne _ h1 _,hFo o h1 h2⟩
    · rcases hX with rfl | rfl
      · exact .inl hk
      · refine .inr (.inr (.inr (.inl ⟨g,e,s,n,cs,g,e,s,n,_,ho,by rw [hO,if_pos rfl],nupd_ne _ (Ne.symm hkb) _,Nat.le_refl _,fun _ off hi => ⟨?_,fun _ _ => rfl⟩⟩)))
        obtain ⟨a1,a2,a3,a4,hi⟩:=hi
        rw [List.getElem?_set] at hi
        split at hi
        · split at hi <;> cases hi
        · exact ⟨a1,a2,a3,a4,hi⟩
    · rcases hX with rfl | rfl
      · rw [hO,if_neg hkb,if_pos rfl,hFk]
        have:ι' o = v:=nupd_same _ _ _
        rw [this]
        simp only [R] at hR
        obtain ⟨ys,G,g1,g2,g3⟩:=hR
        exact ⟨ys,G,g1,Rs_mono hU (fun _ _ => rfl) _ _ _ g2 (fun _ _ => rfl),g3⟩
      · rw [hO,if_pos rfl,hFb]
        have:ι' o = ι o:=nupd_ne _ (Ne.symm hkb) _
        rw [this]
        exact ⟨xs,F1 ++ F3,hown,hset w _ .any (fun ps' vs' G hG => Rs_mono hU (fun _ _ => rfl) _ _ _ hG (fun _ _ => rfl)) (AR_any_of (Rs_U1 hU hR)),rfl⟩
    · rcases hX with rfl | rfl
      · rw [hFk]; exact (List.nodup_append.1 hnd3.1).2.1
      · rw [hFb]
        exact hnd.sublist (List.Sublist.append (List.Sublist.refl _) (List.Sublist.append (List.sublist_append_left F1 F2) (List.Sublist.refl F3)))
    · rcases hX with rfl | rfl
      · rw [hFk] at hz
        exact ⟨(h.own b z (hsubk z hz)).1,.inr ⟨b,.inr rfl,hsubk z hz⟩⟩
      · exact ⟨(h.own o z (hsubb z hz)).1,.inr ⟨o,.inr rfl,hsubb z hz⟩⟩
    · have key:∀ z,z ∈ Fs' b → z ∉ F2:=fun z hz hz2 => by
        rw [hFb] at hz
        rcases List.mem_append.1 hz with hz | hz
        · exact (List.nodup_append.1 hnd).2.2 z hz z (by simp [hz2]) rfl
        · rcases List.mem_append.1 hz with hz | hz
          · exact (List.nodup_append.1 hnd3.1).2.2 z hz z hz2 rfl
          · exact hnd3.2.2 z (by simp [hz2]) z hz rfl
      rcases hX with rfl | rfl
      · rcases hX' with rfl | rfl
        · exact hne rfl
        · rw [hFk] at hz; exact key z hz' hz
      · rcases hX' with rfl | rfl
        · rw [hFk] at hz'; exact key z hz hz'
        · exact hne rfl
  refine ⟨ι',Fs',h.move M,h.later M,fun blk hblk => ?_,nupd_ne _ (Ne.symm hkb) _⟩
  have:ι' k = v:=nupd_same _ _ _
  rw [this]
  have:=hown.cells hblk j v hv
  rwa [addr_add,Nat.zero_add] at this
theorem outPVs_oe:∀ {ps:List PV} {k:Nat} (x:Nat) (ob:AObj),(x,ob) ∈ (outPVs k ps).2 → k ≤ x ∧ x < k + ps.length
  | [],_,_,_,h => by simp [outPVs] at h
  | p :: ps,k,x,ob,h => by
    simp only [outPVs,List.mem_append] at h
    rcases h with h | h
    · have:x = k:=by
        cases p <;> simp [outPV] at h
        exact h.1
      subst this; simp
    · have:=outPVs_oe x ob h; simp; omega
theorem wr_o_other' {r:List (Nat × AObj)} {σ:AEnv} {x:Nat} (h:∀ k ob,(k,ob) ∈ r → x ≠ k):(AEnv.wr r σ).o x = σ.o x:=by
  induction r with
  | nil => rfl
  | cons y r ih =>
    obtain ⟨k,ob⟩:=y
    simp only [AEnv.wr,AEnv.upd]
    rw [if_neg (h k ob List.mem_cons_self)]
    exact ih (fun k' ob' hm => h k' ob' (List.mem_cons_of_mem _ hm))
theorem wr_t' (r:List (Nat × AObj)) (σ:AEnv):(AEnv.wr r σ).t = σ.t:=by
  induction r with
  | nil => rfl
  | cons x r ih => obtain ⟨k,ob⟩:=x; simp only [AEnv.wr,AEnv.upd,ih]
theorem wr_o_in {oe:List (Nat × AObj)} {x:Nat} (h:∃ ob,(x,ob) ∈ oe):∀ (σ σ':AEnv),(AEnv.wr oe σ).o x = (AEnv.wr oe σ').o x:=by
  intro σ σ'
  induction oe with
  | nil => obtain ⟨_,h⟩:=h; cases h
  | cons y r ih =>
    obtain ⟨k,ob'⟩:=y
    simp only [AEnv.wr,AEnv.upd]
    by_cases hx:x = k
    · simp [hx]
    · simp only [hx,if_false]
      obtain ⟨ob,h⟩:=h
      rcases List.mem_cons.1 h with h | h
      · cases h; exact absurd rfl hx
      · exact ih ⟨ob,h⟩
theorem AEnv.eqv {σ σ':AEnv} (h1:σ.t = σ'.t) (h2:σ.o = σ'.o):σ = σ':=by cases σ; cases σ'; simp only at h1 h2; rw [h1,h2]
theorem freeOE_mem {O:Nat → AObj}:∀ {r:List (Nat × AObj)},freeOE O r → ∀ x ob,(x,ob) ∈ r → O x = .none
  | [],_,_,_,h => by cases h
  | (k,ob') :: r,hr,x,ob,h => by
    rcases List.mem_cons.1 h with h | h
    · cases h; exact hr.1
    · exact freeOE_mem hr.2 x ob h
theorem Sim.takes:∀ {ps:List PV} {σ:AEnv} {ι:Nat → Value} {Fs:Nat → List Nat} {b g e s n k:Nat} {pre post:List PV},Sim C σ a w ι Fs → σ.o b = .arr g e s n (pre ++ ps ++ post) →
    (∀ x ob,(x,ob) ∈ (outPVs k ps).2 → σ.o x = .none) → ∀ {vs:List Value} {blk:Nat},(ι b).ownBlock = some blk → memAt w blk pre.length vs → vs.length = ps.length →
    (∃ F,Rs w (Un C w Fs) ps vs F) →
    ∃ ι' Fs',Sim C (AEnv.wr ((b,.arr g e s n (pre ++ ps.map leftPV ++ post)) :: (outPVs k ps).2) σ) a w ι' Fs' ∧
      Later w w (Un C w Fs) (Un C w Fs') σ.o (AEnv.wr ((b,.arr g e s n (pre ++ ps.map leftPV ++ post)) :: (outPVs k ps).2) σ).o ι ι' ∧
      ARs w (Un C w Fs') (AEnv.wr ((b,.arr g e s n (pre ++ ps.map leftPV ++ post)) :: (outPVs k ps).2) σ).o ι' (outPVs k ps).1 vs
  | [],σ,ι,Fs,b,g,e,s,n,k,pre,post,h,ho,_,vs,blk,hb,hm,hl,hR => by
    have hv:vs = []:=List.eq_nil_of_length_eq_zero (by simpa using hl)
    subst hv
    have e1:AEnv.wr [(b,.arr g e s n (pre ++ ([]:List PV).map leftPV ++ post))] σ = σ:=by
      simp only [AEnv.wr,AEnv.upd]
      have:(fun x => if x = b then AObj.arr g e s n (pre ++ ([]:List PV).map leftPV ++ post) else σ.o x) = σ.o:=by
        funext x
        split
        · rename_i hx; rw [hx,ho]; simp
        · rfl
      rw [this]
    simp only [outPVs]
    rw [e1]
    refine ⟨ι,Fs,h,?_,by simp [ARs]⟩
    exact ⟨fun _ hk => hk,fun _ _ => rfl,fun o => by
      cases hO:σ.o o with
      | none => exact .inl rfl
      | dead => exact .inr (.inl rfl)
      | box c => exact .inr (.inr (.inl ⟨c,c,rfl,rfl,rfl⟩))
      | arr g1 e1 s1 n1 c => exact .inr (.inr (.inr (.inl ⟨g1,e1,s1,n1,c,g1,e1,s1,n1,c,rfl,rfl,rfl,Nat.le_refl _,fun _ off hi => ⟨hi,fun _ _ => rfl⟩⟩)))
      | mp Q => exact .inr (.inr (.inr (.inr ⟨Q,Q,rfl,rfl,rfl⟩)))⟩
  | p :: ps,σ,ι,Fs,b,g,e,s,n,k,pre,post,h,ho,hfr,vs,blk,hb,hm,hl,hR => by
    obtain ⟨v,vs,rfl⟩:∃ v r,vs = v :: r:=by cases vs with | nil => simp at hl | cons v r => exact ⟨v,r,rfl⟩
    obtain ⟨F,hR⟩:=hR
    simp only [Rs] at hR
    obtain ⟨F1,F2,hR1,hR2,rfl⟩:=hR
    have hl':vs.length = ps.length:=by simpa using hl
    have hv:w.cell? ⟨blk,pre.length,none⟩ = some v:=by simpa using hm 0 v rfl
    have hm':memAt w blk (pre.length + 1) vs:=fun j u hu => by
      have:=hm (j + 1) u (by simpa using hu)
      rwa [show pre.length + (j + 1) = pre.length + 1 + j by omega] at this
    -- the first one
    have step:∃ ι1 Fs1,Sim C (AEnv.wr ((b,.arr g e s n (pre ++ leftPV p :: (ps ++ post))) :: (outPV k p).2) σ) a w ι1 Fs1 ∧
        Later w w (Un C w Fs) (Un C w Fs1) σ.o (AEnv.wr ((b,.arr g e s n (pre ++ leftPV p :: (ps ++ post))) :: (outPV k p).2) σ).o ι ι1 ∧
        AR w (Un C w Fs1) (AEnv.wr ((b,.arr g e s n (pre ++ leftPV p :: (ps ++ post))) :: (outPV k p).2) σ).o ι1 (outPV k p).1 v ∧ ι1 b = ι b:=by
      by_cases hp:isFree p = true
      · have h1:outPV k p = (.c p,[]):=by cases p <;> first | rfl | simp [isFree] at hp
        have h2:leftPV p = p:=by cases p <;> first | rfl | simp [isFree] at hp
        have:=R_free hR1 hp
        subst this
        rw [h1,h2]
        have e1:AEnv.wr [(b,AObj.arr g e s n (pre ++ p :: (ps ++ post)))] σ = σ:=by
          simp only [AEnv.wr,AEnv.upd]
          have:(fun x => if x = b then AObj.arr g e s n (pre ++ p :: (ps ++ post)) else σ.o x) = σ.o:=by
            funext x
            split
            · rename_i hx; rw [hx,ho]; simp
            · rfl
          rw [this]
        rw [e1]
        refine ⟨ι,Fs,h,?_,AR_c.2 hR1,rfl⟩
        exact ⟨fun _ hk => hk,fun _ _ => rfl,fun o => by
          cases hO:σ.o o with
          | none => exact .inl rfl
          | dead => exact .inr (.inl rfl)
          | box c => exact .inr (.inr (.inl ⟨c,c,rfl,rfl,rfl⟩))
          | arr g1 e1 s1 n1 c => exact .inr (.inr (.inr (.inl ⟨g1,e1,s1,n1,c,g1,e1,s1,n1,c,rfl,rfl,rfl,Nat.le_refl _,fun _ off hi => ⟨hi,fun _ _ => rfl⟩⟩)))
          | mp Q => exact .inr (.inr (.inr (.inr ⟨Q,Q,rfl,rfl,rfl⟩)))⟩
      · cases p with
        | ow e1 s1 n1 c1 =>
          have hkn:σ.o k = .none:=hfr k (.arr 0 e1 s1 n1 c1) (by simp [outPVs,outPV])
          have hkb:k ≠ b:=fun hkb => by subst hkb; rw [hkn] at ho; cases ho
          obtain ⟨ι1,Fs1,g1,g2,g3,g4⟩:=h.take1 ho (j:=pre.length) (k:=k) (e1:=e1) (s1:=s1) (n1:=n1) (c1:=c1) (by simp) hkn
          have hset:(pre ++ PV.ow e1 s1 n1 c1 :: ps ++ post).set pre.length .any = pre ++ PV.any :: (ps ++ post):=by simp
          rw [hset] at g1 g2
          refine ⟨ι1,Fs1,g1,g2,?_,g4⟩
          have hc:=g3 blk hb
          rw [hv] at hc
          cases hc
          simp only [outPV,AR,AEnv.wr,AEnv.upd,hkb,if_false,if_true]
        | _ => simp [isFree] at hp
    obtain ⟨ι1,Fs1,g1,g2,g3,g4⟩:=step
    have ho1:(AEnv.wr ((b,.arr g e s n (pre ++ leftPV p :: (ps ++ post))) :: (outPV k p).2) σ).o b = .arr g e s n ((pre ++ [leftPV p]) ++ ps ++ post):=by
      simp [AEnv.wr,AEnv.upd]
    have hbk:∀ x ob,(x,ob) ∈ (outPVs k (p :: ps)).2 → x ≠ b:=fun x ob hx e => by
      subst e; have:=hfr _ _ hx; rw [ho] at this; cases this
    have hfr1:∀ x ob,(x,ob) ∈ (outPVs (k + 1) ps).2 → (AEnv.wr ((b,.arr g e s n (pre ++ leftPV p :: (ps ++ post))) :: (outPV k p).2) σ).o x = .none:=fun x ob hx => by
      have h1:=hfr x ob (by simp only [outPVs]; exact List.mem_append_right _ hx)
      have h2:=(outPVs_oe x ob hx).1
      rw [wr_o_other' (fun k' ob' hk' => ?_),h1]
      rcases List.mem_cons.1 hk' with hk' | hk'
      · cases hk'; exact hbk x ob (by simp only [outPVs]; exact List.mem_append_right _ hx)
      · have:k' = k:=by
          cases p <;> simp [outPV] at hk'
          exact hk'.1
        omega
    obtain ⟨ι2,Fs2,q1,q2,q3⟩:=Sim.takes (ps:=ps) (k:=k + 1) (pre:=pre ++ [leftPV p]) (post:=post) g1 ho1 hfr1 (vs:=vs) (blk:=blk) (by rw [g4]; exact hb) (by simpa using hm') hl'
      ⟨F2,Rs_mono g2.u (fun _ _ => rfl) _ _ _ hR2 (fun _ _ => rfl)⟩
    have eE:AEnv.wr ((b,.arr g e s n (pre ++ [leftPV p] ++ ps.map leftPV ++ post)) :: (outPVs (k + 1) ps).2) (AEnv.wr ((b,.arr g e s n (pre ++ leftPV p :: (ps ++ post))) :: (outPV k p).2) σ) =
        AEnv.wr ((b,.arr g e s n (pre ++ (p :: ps).map leftPV ++ post)) :: (outPVs k (p :: ps)).2) σ:=by
      have et:(AEnv.wr ((b,.arr g e s n (pre ++ [leftPV p] ++ ps.map leftPV ++ post)) :: (outPVs (k + 1) ps).2) (AEnv.wr ((b,.arr g e s n (pre ++ leftPV p :: (ps ++ post))) :: (outPV k p).2) σ)).t =
          (AEnv.wr ((b,.arr g e s n (pre ++ (p :: ps).map leftPV ++ post)) :: (outPVs k (p :: ps)).2) σ).t:=by simp only [wr_t']
      have eo:(AEnv.wr ((b,.arr g e s n (pre ++ [leftPV p] ++ ps.map leftPV ++ post)) :: (outPVs (k + 1) ps).2) (AEnv.wr ((b,.arr g e s n (pre ++ leftPV p :: (ps ++ post))) :: (outPV k p).2) σ)).o =
          (AEnv.wr ((b,.arr g e s n (pre ++ (p :: ps).map leftPV ++ post)) :: (outPVs k (p :: ps)).2) σ).o:=by
        funext x
        by_cases hxb:x = b
        · subst hxb; simp [AEnv.wr,AEnv.upd]
        · have hL:∀ (ob:AObj) (r:List (Nat × AObj)) (σ:AEnv),(AEnv.wr ((b,ob) :: r) σ).o x = (AEnv.wr r σ).o x:=fun ob r σ => by simp [AEnv.wr,AEnv.upd,hxb]
          rw [hL,hL]
          by_cases hx2:∃ ob,(x,ob) ∈ (outPVs (k + 1) ps).2
          · have hx3:∃ ob,(x,ob) ∈ (outPVs k (p :: ps)).2:=by obtain ⟨ob,hx2⟩:=hx2; exact ⟨ob,by simp only [outPVs]; exact List.mem_append_right _ hx2⟩
            rw [wr_o_in hx2 _ σ]
            simp only [outPVs]
            have:∀ (r1 r2:List (Nat × AObj)) (σ:AEnv),(∀ k' ob',(k',ob') ∈ r1 → x ≠ k') → (AEnv.wr (r1 ++ r2) σ).o x = (AEnv.wr r2 σ).o x:=by
              intro r1 r2 σ hr
              induction r1 with
              | nil => rfl
              | cons y r1 ih =>
                obtain ⟨k',ob'⟩:=y
                simp only [List.cons_append,AEnv.wr,AEnv.upd]
                rw [if_neg (hr k' ob' List.mem_cons_self)]
                exact ih (fun k2 ob2 hm2 => hr k2 ob2 (List.mem_cons_of_mem _ hm2))
            rw [this]
            intro k' ob' hk'
            obtain ⟨ob,hx2⟩:=hx2
            have h2:=(outPVs_oe x ob hx2).1
            have:k' = k:=by
              cases p <;> simp [outPV] at hk'
              exact hk'.1
            omega
          · rw [wr_o_other' (r:=(outPVs (k + 1) ps).2) (x:=x) (fun k' ob' hk' e => hx2 ⟨ob',by rw [e]; exact hk'⟩),hL]
            by_cases hx3:∃ ob,(x,ob) ∈ (outPV k p).2
            · simp only [outPVs]
              obtain ⟨ob,hx3⟩:=hx3
              rw [wr_o_in ⟨ob,hx3⟩ σ σ]
              have:∀ (r1 r2:List (Nat × AObj)),(∃ ob,(x,ob) ∈ r1) → (AEnv.wr (r1 ++ r2) σ).o x = (AEnv.wr r1 σ).o x:=by
                intro r1 r2 hr
                induction r1 with
                | nil => obtain ⟨_,hr⟩:=hr; cases hr
                | cons y r1 ih =>
                  obtain ⟨k',ob'⟩:=y
                  simp only [List.cons_append,AEnv.wr,AEnv.upd]
                  by_cases hxk:x = k'
                  · simp [hxk]
                  · simp only [hxk,if_false]
                    obtain ⟨ob,hr⟩:=hr
                    rcases List.mem_cons.1 hr with hr | hr
                    · cases hr; exact absurd rfl hxk
                    · exact ih ⟨ob,hr⟩
              rw [this _ _ ⟨ob,hx3⟩]
            · rw [wr_o_other' (r:=(outPV k p).2) (x:=x) (fun k' ob' hk' e => hx3 ⟨ob',by rw [e]; exact hk'⟩),wr_o_other' (r:=(outPVs k (p :: ps)).2) (x:=x) (fun k' ob' hk' e => ?_)]
              subst e
              simp only [outPVs] at hk'
              rcases List.mem_append.1 hk' with hk' | hk'
              · exact hx3 (Exists.intro ob' hk')
              · exact hx2 (Exists.intro ob' hk')
      exact AEnv.eqv et eo
    rw [← eE]
    refine ⟨ι2,Fs2,q1,?_,?_⟩
    · refine ⟨fun z hz => q2.u z (g2.u z hz),fun z hz => rfl,fun o => ?_⟩
      rcases g2.name o with r1 | r1 | ⟨c1,c2,r1,r2,r3⟩ | ⟨ga,ea,sa,na,ca,gb,eb,sb,nb,cb,r1,r2,r3,r4,r5⟩ | ⟨Q1,Q2,r1,r2,r3⟩
      · exact .inl r1
      · refine .inr (.inl ?_)
        rw [wr_o_other' (fun k' ob' hk' e => ?_),r1]
        subst e
        rcases List.mem_cons.1 hk' with hk' | hk'
        · cases hk'; rw [ho1] at r1; cases r1
        · have:=hfr1 _ _ hk'; rw [r1] at this; cases this
      · rcases q2.name o with t1 | t1 | ⟨c3,c4,t1,t2,t3⟩ | ⟨gc,ec,sc,nc,cc,gd,ed,sd,nd,cd,t1,t2,t3,t4,t5⟩ | ⟨Q3,Q4,t1,t2,t3⟩
        · rw [r2] at t1; cases t1
        · exact .inr (.inl t1)
        · exact .inr (.inr (.inl ⟨c1,c4,r1,t2,t3.trans r3⟩))
        · rw [r2] at t1; cases t1
        · rw [r2] at t1; cases t1
      · rcases q2.name o with t1 | t1 | ⟨c3,c4,t1,t2,t3⟩ | ⟨gc,ec,sc,nc,cc,gd,ed,sd,nd,cd,t1,t2,t3,t4,t5⟩ | ⟨Q3,Q4,t1,t2,t3⟩
        · rw [r2] at t1; cases t1
        · exact .inr (.inl t1)
        · rw [r2] at t1; cases t1
        · rw [r2] at t1
          cases t1
          refine .inr (.inr (.inr (.inl ⟨ga,ea,sa,na,ca,gd,ed,sd,nd,cd,r1,t2,t3.trans r3,Nat.le_trans r4 t4,fun hg off hi => ?_⟩)))
          have hg1:ga = gb:=Nat.le_antisymm r4 (hg ▸ t4)
          obtain ⟨u1,u2⟩:=t5 (hg1 ▸ hg) off hi
          obtain ⟨u3,u4⟩:=r5 hg1 off u1
          exact ⟨u3,fun b' hb' => rfl⟩
        · rw [r2] at t1; cases t1
      · rcases q2.name o with t1 | t1 | ⟨c3,c4,t1,t2,t3⟩ | ⟨gc,ec,sc,nc,cc,gd,ed,sd,nd,cd,t1,t2,t3,t4,t5⟩ | ⟨Q3,Q4,t1,t2,t3⟩
        · rw [r2] at t1; cases t1
        · exact .inr (.inl t1)
        · rw [r2] at t1; cases t1
        · rw [r2] at t1; cases t1
        · exact .inr (.inr (.inr (.inr ⟨Q1,Q4,r1,t2,t3.trans r3⟩)))
    · simp only [outPVs,ARs]
      exact ⟨AR_later q2 _ _ g3,q3⟩
theorem snd_load (hT:TyOK P T) (h:Sim C σ a w ι Fs) (ha:Agr σ.o τ) {t:Nat} {x:Operand} (he:astep T mv (ev σ) τ ⟨dst,.load t x,type,pos,after,guard⟩ = some e) (hs:e.side)
    (hf:∀ k ob,(k,ob) ∈ e.oe → τ k = .none → σ.o k = .none) :
    Snd P C σ a w ⟨dst,.load t x,type,pos,after,guard⟩ e:=by
  simp only [astep] at he
  split at he
  · rename_i i s b off hl hx
    have hi:=hT.m hl
    split at he
    · rename_i cs hτ
      split at he
      · rename_i fs hk
        split at he
        · rename_i hle
          cases he
          obtain ⟨ho,k,hkb,hv⟩:=agr_box ha (ev_ug h x hx hs) hτ
          obtain ⟨vals,ty,hh,hm,hr,_,_⟩:=box_mem h ho hkb
          have hlen:=ARs_length _ _ hr
          have hm':=memAt_drop hm off
          rw [Nat.zero_add] at hm'
          refine Snd.pure h (v:=.agg ((vals.toList.drop off).take i.size).toArray) ?_ ?_
          · simp only [execOp,hv,Sem.run_bind,loadAt_struct hi hk hm' (by simp only [List.length_drop]; omega),Result.andThen_ok,Sem.run_pure]
          · simp only [AR]; exact ⟨_,rfl,by simpa using ARs_take (ARs_drop hr off) i.size⟩
        · cases he
      · cases he
      · rename_i hk1 hk2
        split at he
        · rename_i y hy
          cases he
          obtain ⟨ho,k,hkb,hv⟩:=agr_box ha (ev_ug h x hx hs) hτ
          obtain ⟨vals,ty,hh,hm,hr,_,_⟩:=box_mem h ho hkb
          obtain ⟨u,hu,hur⟩:=ARs_get hr hy
          have hc:=hm off u hu
          rw [Nat.zero_add] at hc
          refine Snd.pure h (v:=u) ?_ hur
          simp only [execOp,hv,Sem.run_bind,loadAt_cell hi (fun hk => hk2 hk) (fun fs hk => hk1 fs hk) hc,Result.andThen_ok,Sem.run_pure]
        · cases he
    · cases he
  · rename_i i s b off hl hx
    have hi:=hT.m hl
    split at he
    · rename_i g e1 s1 n1 cs hτ
      cases mv with
      | true =>
        simp only at he
        split at he
        · rename_i fs d hk
          cases he
          obtain ⟨hs,hle,hsm,hfr⟩:=hs
          obtain ⟨ho,k,hkb,hv⟩:=agr_pa ha (ev_ug h x hx hs) hτ
          obtain ⟨xs,F',hown,hm,hr,_⟩:=arr_mem h ho hkb
          have hlen:=Rs_length _ _ _ hr
          have hm':=memAt_drop hm off
          rw [Nat.zero_add] at hm'
          obtain ⟨F1,F2,_,h2,_⟩:=Rs_split off _ _ _ hr
          obtain ⟨F3,F4,h3,_,_⟩:=Rs_split i.size _ _ _ h2
          have hl1:((cs.drop off).take i.size).length = i.size:=by simp only [List.length_take,List.length_drop]; omega
          have hpre:(cs.take off).length = off:=by simp only [List.length_take]; omega
          have hcs:cs = cs.take off ++ (cs.drop off).take i.size ++ cs.drop (off + i.size):=by
            rw [List.append_assoc,← List.drop_drop,List.take_append_drop,List.take_append_drop]
          have hsp:splice cs off (((cs.drop off).take i.size).map leftPV) = cs.take off ++ ((cs.drop off).take i.size).map leftPV ++ cs.drop (off + i.size):=by
            unfold splice; rw [List.length_map,hl1]
          obtain ⟨ι',Fs',g1,_,g3⟩:=Sim.takes (ps:=(cs.drop off).take i.size) (k:=64 * d) (pre:=cs.take off) (post:=cs.drop (off + i.size)) h (by rw [← hcs]; exact ho)
            (fun z ob hz => hf z ob (List.mem_cons_of_mem _ hz) (freeOE_mem hfr z ob hz)) (vs:=(xs.drop off).take i.size) (blk:=k) hkb (by rw [hpre]; exact memAt_take hm' _)
            (by rw [hl1]; simp only [List.length_take,List.length_drop]; omega) ⟨F3,h3⟩
          rw [← hsp] at g1 g3
          refine ⟨.value (.agg ((xs.drop off).take i.size).toArray),w,ι',Fs',.agg ((xs.drop off).take i.size).toArray,?_,.inl rfl,g1,?_⟩
          · simp only [execOp,hv,Sem.run_bind,loadAt_struct hi hk hm' (by simp only [List.length_drop]; omega),Result.andThen_ok,Sem.run_pure]
          · simp only [AR]; exact ⟨_,rfl,by simpa using g3⟩
        · cases he
      | false =>
      simp only at he
      split at he
      · rename_i fs hk
        cases he
        obtain ⟨hs,hle⟩:=hs
        obtain ⟨ho,k,hkb,hv⟩:=agr_pa ha (ev_ug h x hx hs) hτ
        obtain ⟨xs,F',hown,hm,hr,_⟩:=arr_mem h ho hkb
        have hlen:=Rs_length _ _ _ hr
        have hm':=memAt_drop hm off
        rw [Nat.zero_add] at hm'
        refine Snd.pure h (v:=.agg ((xs.drop off).take i.size).toArray) ?_ ?_
        · simp only [execOp,hv,Sem.run_bind,loadAt_struct hi hk hm' (by simp only [List.length_drop]; omega),Result.andThen_ok,Sem.run_pure]
        · simp only [AR]
          obtain ⟨F1,F2,_,h2,_⟩:=Rs_split off _ _ _ hr
          obtain ⟨F3,F4,h3,_,_⟩:=Rs_split i.size _ _ _ h2
          exact ⟨_,rfl,ofPVs_ARs ho hkb h3 (memAt_take hm' _)⟩
      · cases he
      · rename_i hk1 hk2
        split at he
        · rename_i y hy
          cases he
          obtain ⟨ho,k,hkb,hv⟩:=agr_pa ha (ev_ug h x hx hs) hτ
          obtain ⟨xs,F',hown,hm,hr,_⟩:=arr_mem h ho hkb
          obtain ⟨u,F1,hu,hur,_⟩:=Rs_get hr hy
          have hc:=hm off u hu
          rw [Nat.zero_add] at hc
          refine Snd.pure h (v:=u) ?_ (ofPV_AR ho hkb hur hc)
          simp only [execOp,hv,Sem.run_bind,loadAt_cell hi (fun hk => hk2 hk) (fun fs hk => hk1 fs hk) hc,Result.andThen_ok,Sem.run_pure]
        · cases he
    · cases he
  · rename_i i s cs off hl hx
    have hi:=hT.m hl
    split at he
    · rename_i fs hk
      cases he
      obtain ⟨hs,hle⟩:=hs
      have hv:=ev_ug h x hx hs
      simp only [AR] at hv
      obtain ⟨b,o0,xs,hv,hU,hm,hr⟩:=hv
      have hlen:=Rs_length _ _ _ hr
      have hm':=memAt_drop hm off
      refine Snd.pure h (v:=.agg ((xs.drop off).take i.size).toArray) ?_ ?_
      · simp only [execOp,hv,Sem.run_bind,loadAt_struct hi hk hm' (by simp only [List.length_drop]; omega),Result.andThen_ok,Sem.run_pure]
      · simp only [AR]
        exact ⟨_,rfl,map_c_ARs (Rs_take (Rs_drop hr off) i.size)⟩
    · cases he
    · rename_i hk1 hk2
      split at he
      · rename_i y hy
        cases he
        have hv:=ev_ug h x hx hs
        simp only [AR] at hv
        obtain ⟨b,o0,xs,hv,hU,hm,hr⟩:=hv
        obtain ⟨u,F1,hu,hur,hF⟩:=Rs_get hr hy
        have hF1:F1 = []:=by cases F1 with | nil => rfl | cons z F1 => exact absurd (hF z (by simp)) (by simp)
        subst hF1
        refine Snd.pure h (v:=u) ?_ (AR_c.2 hur)
        simp only [execOp,hv,Sem.run_bind,loadAt_cell hi (fun hk => hk2 hk) (fun fs hk => hk1 fs hk) (hm off u hu),Result.andThen_ok,Sem.run_pure]
      · cases he
  · cases he
end
end Am
namespace Am
open Go
section
variable {P:Program} {T:Ty} {mv:Bool} {C:Ctx} {σ:AEnv} {a:Act} {w w':World} {ι:Nat → Value} {Fs:Nat → List Nat} {τ:Nat → AObj} {e:Eff}
variable {dst:Option Tmp} {type:TypeId} {pos:String} {after:Array Edge} {guard:Option (Nat × Bool)}
theorem wr_dead_t:∀ (gone:List Nat),(AEnv.wr (gone.map (·,.dead)) σ).t = σ.t
  | [] => rfl
  | g :: gone => by simp only [List.map_cons,AEnv.wr,AEnv.upd]; exact wr_dead_t gone
theorem wr_dead_o:∀ (gone:List Nat) (x:Nat),(AEnv.wr (gone.map (·,.dead)) σ).o x = if x ∈ gone then .dead else σ.o x
  | [],x => by simp [AEnv.wr]
  | g :: gone,x => by
    simp only [List.map_cons,AEnv.wr,AEnv.upd,List.mem_cons]
    by_cases hx:x = g
    · simp [hx]
    · simp only [hx,if_false,false_or]; exact wr_dead_o gone x
def fupd {α:Type} (f:Nat → α) (k:Nat) (v:α):Nat → α:=fun x => if x = k then v else f x
theorem fupd_same {α:Type} (f:Nat → α) (k:Nat) (v:α):fupd f k v k = v:=by simp [fupd]
theorem fupd_ne {α:Type} (f:Nat → α) {k x:Nat} (h:x ≠ k) (v:α):fupd f k v x = f x:=by simp [fupd,h]
theorem Sim.make (h:Sim C σ a w ι Fs) {k:Nat} (hk:σ.o k = .none) {gone:List Nat} {ob:AObj} {v:Value} {F:List Nat}
    (hgone:∀ g,g ∈ gone → σ.o g ≠ .none)
    (hos:w'.os = w.os) (htape:Tp w w') (hout:w'.output = w.output) (hsize:w.heap.size ≤ w'.heap.size)
    (hblock:∀ j,j < w.heap.size → (∀ g,g ∈ gone → j ∉ Fs g) → w'.heap[j]? = w.heap[j]?)
    (hF:∀ b,b ∈ F → b < w'.heap.size ∧ (w.heap.size ≤ b ∨ ∃ g,g ∈ gone ∧ b ∈ Fs g)) (hnd:F.Nodup)
    (hob:ObR w' (Un C w' (fupd (fun x => if x ∈ gone then [] else Fs x) k F)) (AEnv.wr ((k,ob) :: gone.map (·,.dead)) σ).o (fupd ι k v) ob v F) :
    Sim C (AEnv.wr ((k,ob) :: gone.map (·,.dead)) σ) a w' (fupd ι k v) (fupd (fun x => if x ∈ gone then [] else Fs x) k F):=by
  have ho':∀ x,(AEnv.wr ((k,ob) :: gone.map (·,.dead)) σ).o x = if x = k then ob else if x ∈ gone then .dead else σ.o x:=by
    intro x
    simp only [AEnv.wr,AEnv.upd]
    by_cases hx:x = k
    · simp [hx]
    · simp only [hx,if_false]; exact wr_dead_o gone x
  have ht':(AEnv.wr ((k,ob) :: gone.map (·,.dead)) σ).t = σ.t:=by simp only [AEnv.wr,AEnv.upd]; exact wr_dead_t gone
  have hkg:k ∉ gone:=fun hm => hgone k hm hk
  have hne1:∀ x,x ∈ gone → x ≠ k:=fun x hx (e:x = k) => hkg (e ▸ hx)
  have hnil:∀ x,x ∈ gone → fupd (fun x => if x ∈ gone then [] else Fs x) k F x = []:=fun x hx => by
    rw [fupd_ne _ (hne1 x hx)]; exact if_pos hx
  have e:AEnv.wr ((k,ob) :: gone.map (·,.dead)) σ = ⟨σ.t,(AEnv.wr ((k,ob) :: gone.map (·,.dead)) σ).o⟩:=by
    generalize AEnv.wr ((k,ob) :: gone.map (·,.dead)) σ = s at ht' ⊢
    cases s
    simp only at ht'
    rw [ht']
  rw [e]
  refine h.move (X:=fun o => o = k ∨ o ∈ gone) ⟨hos,htape,hout,hsize,fun j hj hX => hblock j hj (fun g hg => hX g (.inr hg)),fun o hX => ?_,fun o hX => ?_,fun o hX => ?_,fun o hX => ?_,fun o hX b hb => ?_,fun o o' hX hX' hne b hb hb' => ?_⟩
  · have h1:o ≠ k:=fun e => hX (.inl e)
    have h2:o ∉ gone:=fun e => hX (.inr e)
    exact ⟨by rw [ho']; simp [h1,h2],fupd_ne _ h1 _,by rw [fupd_ne _ h1]; simp [h2]⟩
  · rcases hX with rfl | hg
    · exact .inl hk
    · have h1:o ≠ k:=fun e => hkg (e ▸ hg)
      exact .inr (.inl (by rw [ho']; simp [h1,hg]))
  · rcases hX with rfl | hg
    · rw [ho',if_pos rfl,fupd_same,fupd_same]; exact hob
    · have h1:o ≠ k:=hne1 o hg
      rw [ho',if_neg h1,if_pos hg,hnil o hg]
      exact rfl
  · rcases hX with rfl | hg
    · rw [fupd_same]; exact hnd
    · rw [hnil o hg]; exact List.nodup_nil
  · rcases hX with rfl | hg
    · rw [fupd_same] at hb
      obtain ⟨h1,h2⟩:=hF b hb
      refine ⟨h1,?_⟩
      rcases h2 with h2 | ⟨g,hg,h2⟩
      · exact .inl h2
      · exact .inr ⟨g,.inr hg,h2⟩
    · rw [hnil o hg] at hb
      cases hb
  · rcases hX with rfl | hg
    · rcases hX' with rfl | hg'
      · exact hne rfl
      · rw [hnil o' hg'] at hb'; cases hb'
    · rw [hnil o hg] at hb; cases hb
theorem Sim.make_later (h:Sim C σ a w ι Fs) {k:Nat} (hk:σ.o k = .none) {gone:List Nat} {ob:AObj} {v:Value} {F:List Nat}
    (hgone:∀ g,g ∈ gone → σ.o g ≠ .none) (hsize:w.heap.size ≤ w'.heap.size)
    (hblock:∀ j,j < w.heap.size → (∀ g,g ∈ gone → j ∉ Fs g) → w'.heap[j]? = w.heap[j]?)
    (hF:∀ b,b ∈ F → b < w'.heap.size ∧ (w.heap.size ≤ b ∨ ∃ g,g ∈ gone ∧ b ∈ Fs g)) :
    Later w w' (Un C w Fs) (Un C w' (fupd (fun x => if x ∈ gone then [] else Fs x) k F)) σ.o (AEnv.wr ((k,ob) :: gone.map (·,.dead)) σ).o ι (fupd ι k v):=by
  have ho':∀ x,(AEnv.wr ((k,ob) :: gone.map (·,.dead)) σ).o x = if x = k then ob else if x ∈ gone then .dead else σ.o x:=by
    intro x
    simp only [AEnv.wr,AEnv.upd]
    by_cases hx:x = k
    · simp [hx]
    · simp only [hx,if_false]; exact wr_dead_o gone x
  refine ⟨fun j hj => ⟨Nat.lt_of_lt_of_le hj.1 hsize,hj.2.1,fun o ho => ?_⟩,fun j hj => hblock j hj.1 (fun g _ => hj.2.2 g),fun o => ?_⟩
  · by_cases e:o = k
    · subst e
      rw [fupd_same] at ho
      rcases (hF j ho).2 with h1 | ⟨g,_,h1⟩
      · have:=hj.1; omega
      · exact hj.2.2 g h1
    · rw [fupd_ne _ e] at ho
      split at ho
      · cases ho
      · exact hj.2.2 o ho
  · by_cases e:o = k
    · exact .inl (e ▸ hk)
    · by_cases hg:o ∈ gone
      · exact .inr (.inl (by rw [ho',if_neg e,if_pos hg]))
      · have ho:(AEnv.wr ((k,ob) :: gone.map (·,.dead)) σ).o o = σ.o o:=by rw [ho',if_neg e,if_neg hg]
        have hi:fupd ι k v o = ι o:=fupd_ne _ e _
        cases hO:σ.o o with
        | none => exact .inl rfl
        | dead => exact .inr (.inl (by rw [ho,hO]))
        | box c => exact .inr (.inr (.inl ⟨c,c,rfl,by rw [ho,hO],hi⟩))
        | mp Q => exact .inr (.inr (.inr (.inr ⟨Q,Q,rfl,by rw [ho,hO],hi⟩)))
        | arr g1 e1 s1 n1 c =>
          refine .inr (.inr (.inr (.inl ⟨g1,e1,s1,n1,c,g1,e1,s1,n1,c,rfl,by rw [ho,hO],hi,Nat.le_refl _,fun _ off hi => ⟨hi,fun b hb => ?_⟩⟩)))
          have hob:=h.ob o
          rw [hO] at hob
          obtain ⟨xs,F',_,_,hF'⟩:=hob
          have hbo:b ∈ Fs o:=by rw [hF',hb]; simp
          exact World.cell?_of_block (w:=w) (w':=w') (a:=⟨b,off,none⟩) (hblock b (h.own o b hbo).1 (fun g hg' hbg => h.dis o g (fun e => hg (e ▸ hg')) b hbo hbg))
theorem Below_heap_alloc (w:World) (o:Obj) (k:Nat) (h:k < w.heap.size):(w.alloc o).heap[k]? = w.heap[k]?:=by
  show (w.heap.push o)[k]? = _
  rw [Array.getElem?_push,if_neg (by omega)]
theorem grownBy_alloc_none (w:World) (o:Obj):w.grownBy (w.alloc o) none:=World.grownBy_alloc w o none
theorem cellsOf_AR {U:Nat → Prop} (h:Sim C σ a w ι Fs) (ha:Agr σ.o τ) {x:AV} {v:Value} {cs:List AV} (hx:AR w (Un C w Fs) σ.o ι x v) (hc:cellsOf τ x = some cs) :
    ARs w (Un C w Fs) σ.o ι cs v.cells.toList ∧ (∀ y,y ∈ v.cells.toList → y.oneCell' = true):=by
  have one:∀ (x:AV) (v:Value),AR w (Un C w Fs) σ.o ι x v → cellOk τ x = true → v.oneCell' = true ∧ v.cells = #[v]:=by
    intro x v hx hc
    cases x with
    | c p => exact R_oneCell (AR_c.1 hx)
    | nil => simp only [AR] at hx; subst hx; exact ⟨rfl,rfl⟩
    | arr o =>
      simp only [cellOk] at hc
      split at hc
      · rename_i e1 s1 n1 c1 hτ
        obtain ⟨ho,hv⟩:=agr_arr ha hx hτ
        have hob:=h.ob o
        rw [ho] at hob
        obtain ⟨xs,F',hown,_⟩:=hob
        subst hv
        rcases hown.2 with ⟨hv,_⟩ | ⟨g,cap,cur,hv,_⟩ <;> (rw [hv]; exact ⟨rfl,rfl⟩)
      · cases hc
    | _ => simp [cellOk] at hc
  unfold cellsOf at hc
  split at hc
  · rename_i cs'
    split at hc
    · rename_i hall
      cases hc
      simp only [AR] at hx
      obtain ⟨vs,rfl,hs⟩:=hx
      refine ⟨hs,?_⟩
      intro y hy
      simp only [Value.cells] at hy
      obtain ⟨i,hi,hyi⟩:=List.getElem_of_mem hy
      have hlen:=ARs_length _ _ hs
      have hi':i < cs.length:=by rw [hlen]; exact hi
      obtain ⟨u,hu,hur⟩:=ARs_get hs (List.getElem?_eq_getElem hi')
      have huy:u = y:=by
        have:=List.getElem?_eq_getElem hi
        rw [hyi] at this
        rw [this] at hu
        cases hu; rfl
      subst huy
      exact (one _ _ hur (List.all_eq_true.1 hall _ (List.getElem_mem hi'))).1
    · cases hc
  · split at hc
    · rename_i hok
      cases hc
      obtain ⟨h1,h2⟩:=one _ _ hx hok
      rw [h2]
      exact ⟨by simp only [ARs]; exact ⟨hx,trivial⟩,by intro y hy; simp at hy; subst hy; exact h1⟩
    · cases hc
theorem snd_alloc (hT:TyOK P T) (h:Sim C σ a w ι Fs) {t:Nat} (he:astep T mv (ev σ) τ ⟨dst,.alloc t,type,pos,after,guard⟩ = some e) (hs:e.side)
    (hf:∀ k ob,(k,ob) ∈ e.oe → τ k = .none → σ.o k = .none):Snd P C σ a w ⟨dst,.alloc t,type,pos,after,guard⟩ e:=by
  simp only [astep] at he
  split at he
  · rename_i i d hl
    split at he
    · cases he
    rename_i hko
    cases he
    have hi:=hT.m hl
    obtain ⟨ti,z,hinfo,hsz,_,hz,hzm,_⟩:=hi.info
    have hk:=hf _ _ List.mem_cons_self hs
    have hzr:=zmatches_ARs (w:=w.alloc (.cells z.cells t)) (U:=Un C (w.alloc (.cells z.cells t)) (fupd (fun x => if x ∈ ([]:List Nat) then [] else Fs x) (64 * d) [w.heap.size])) (O:=(AEnv.wr ((64 * d,.box i.zero) :: ([]:List Nat).map (·,AObj.dead)) σ).o)
      (ι:=fupd ι (64 * d) (.pointer (some ⟨w.heap.size,0,none⟩))) (hzm hko)
    refine ⟨.value (.pointer (some ⟨w.heap.size,0,none⟩)),w.alloc (.cells z.cells t),_,_,_,?_,.inl rfl,
      h.make (gone:=[]) hk (by simp) rfl ⟨rfl,Nat.le_refl _⟩ rfl (by simp) (fun j hj _ => Below_heap_alloc w _ j hj) (F:=[w.heap.size]) (by simp) (by simp)
        ⟨w.heap.size,z.cells,t,rfl,heap_alloc_new w _,hzr.1,hzr.2,rfl⟩,?_⟩
    · simp [execOp,Instr.alloc,zeroValue,typeInfo,hinfo,hz,newVar,newRow]
    · simp only [AR,AEnv.wr,AEnv.upd,if_true,fupd_same]
      exact ⟨_,rfl,rfl⟩
  · cases he
theorem snd_box (hT:TyOK P T) (h:Sim C σ a w ι Fs) (ha:Agr σ.o τ) {t:Nat} {x:Operand} (he:astep T mv (ev σ) τ ⟨dst,.box t x,type,pos,after,guard⟩ = some e) (hs:e.side)
    (hf:∀ k ob,(k,ob) ∈ e.oe → τ k = .none → σ.o k = .none):Snd P C σ a w ⟨dst,.box t x,type,pos,after,guard⟩ e:=by
  simp only [astep] at he
  split at he
  · rename_i i d cs hl hc
    cases he
    have hk:=hf _ _ List.mem_cons_self hs
    obtain ⟨h1,h2⟩:=cellsOf_AR (U:=Un C w Fs) h ha (ev_AR h x) hc
    have hL:=h.make_later (w':=w.alloc (.cells (a.eval x).cells t)) (gone:=[]) hk (ob:=.box cs) (v:=.pointer (some ⟨w.heap.size,0,none⟩)) (F:=[w.heap.size]) (by simp) (by simp) (fun j hj _ => Below_heap_alloc w _ j hj) (by simp)
    refine ⟨.value (.pointer (some ⟨w.heap.size,0,none⟩)),w.alloc (.cells (a.eval x).cells t),_,_,_,?_,.inl rfl,
      h.make (gone:=[]) hk (by simp) rfl ⟨rfl,Nat.le_refl _⟩ rfl (by simp) (fun j hj _ => Below_heap_alloc w _ j hj) (F:=[w.heap.size]) (by simp) (by simp)
        ⟨w.heap.size,(a.eval x).cells,t,rfl,heap_alloc_new w _,ARs_later hL _ _ h1,h2,rfl⟩,?_⟩
    · simp [execOp,Instr.box,newVar,newRow]
    · simp only [AR,AEnv.wr,AEnv.upd,if_true,fupd_same]
      exact ⟨_,rfl,rfl⟩
  · cases he
end
end Am
namespace Am
open Go
theorem splice_cons {α:Type} (l:List α) (off:Nat) (c:α) (xs:List α) (h:off < l.length):splice (l.set off c) (off + 1) xs = splice l off (c :: xs):=by
  unfold splice
  have h1:(l.set off c).take (off + 1) = l.take off ++ [c]:=by
    rw [List.take_set,List.take_succ_eq_append_getElem h,List.set_append_right _ _ (by simp; omega)]
    simp [Nat.min_eq_left (Nat.le_of_lt h)]
  have h2:(l.set off c).drop (off + 1 + xs.length) = l.drop (off + (c :: xs).length):=by
    rw [List.drop_set_of_lt (by omega)]
    congr 1
    simp; omega
  rw [h1,h2]
  simp
theorem fill_splice (off:Nat):∀ (l:List Value) (k:Nat) (cells:Array Value),off + k + l.length ≤ cells.size →
    ((l.zipIdx k).foldl (fun cs (x:Value × Nat) => cs.setIfInBounds (off + x.2) x.1) cells).toList = splice cells.toList (off + k) l
  | [],k,cells,_ => by simp [splice]
  | c :: l,k,cells,h => by
    simp only [List.zipIdx_cons,List.foldl_cons]
    rw [fill_splice off l (k + 1) (cells.setIfInBounds (off + k) c) (by simp at h ⊢; omega)]
    rw [Array.toList_setIfInBounds,show off + (k + 1) = off + k + 1 by omega]
    exact splice_cons _ _ _ _ (by simp at h ⊢; omega)
theorem splice_length {α:Type} (l:List α) (off:Nat) (xs:List α) (h:off + xs.length ≤ l.length):(splice l off xs).length = l.length:=by
  simp [splice]; omega
section
variable {P:Program} {T:Ty} {mv:Bool} {C:Ctx} {σ:AEnv} {a:Act} {w w':World} {ι:Nat → Value} {Fs:Nat → List Nat} {τ:Nat → AObj} {e:Eff}
variable {dst:Option Tmp} {type:TypeId} {pos:String} {after:Array Edge} {guard:Option (Nat × Bool)}
theorem ARs_splice {U:Nat → Prop} {O:Nat → AObj} {as xs:List AV} {vs us:List Value} (h:ARs w U O ι as vs) (hx:ARs w U O ι xs us) (off:Nat):ARs w U O ι (splice as off xs) (splice vs off us):=by
  unfold splice
  rw [ARs_length _ _ hx]
  exact ARs_append (ARs_append (ARs_take h off) hx) (ARs_drop h _)
inductive PartsR (w:World) (U:Nat → Prop) (O:Nat → AObj) (ι:Nat → Value) (place:Nat → Option (Nat × Nat)):List (Nat × List AV) → List (Nat × Value) → Prop
  | nil:PartsR w U O ι place [] []
  | cons {i off size:Nat} {cs:List AV} {v:Value} {ps:List (Nat × List AV)} {vs:List (Nat × Value)} (hp:place i = some (off,size)) (hs:cs.length = size) (hr:ARs w U O ι cs v.cells.toList)
      (h1:∀ y,y ∈ v.cells.toList → y.oneCell' = true) (h:PartsR w U O ι place ps vs):PartsR w U O ι place ((off,cs) :: ps) ((i,v) :: vs)
theorem fill_run {U:Nat → Prop} {O:Nat → AObj} {place:Nat → Option (Nat × Nat)} {ps:List (Nat × List AV)} {vs:List (Nat × Value)} (h:PartsR w U O ι place ps vs) :
    ∀ {as rs:List AV} {cells:Array Value},ARs w U O ι as cells.toList → (∀ y,y ∈ cells.toList → y.oneCell' = true) → fillA as ps = some rs →
      ∃ out,Instr.fill place cells vs = some out ∧ ARs w U O ι rs out.toList ∧ (∀ y,y ∈ out.toList → y.oneCell' = true):=by
  induction h with
  | nil => intro as rs cells hr h1 hf; simp only [fillA] at hf; cases hf; exact ⟨cells,rfl,hr,h1⟩
  | @cons i off size cs v ps vs hp hs hr' h1' _ ih =>
    intro as rs cells hr h1 hf
    simp only [fillA] at hf
    split at hf
    · rename_i hle
      have hl1:=ARs_length _ _ hr
      have hl2:=ARs_length _ _ hr'
      have hsz:v.cells.size = size:=by rw [← hs,hl2]; simp
      have hfit:¬ (v.cells.size ≠ size ∨ off + v.cells.size > cells.size):=by
        have:cells.size = as.length:=by rw [hl1]; simp
        rintro (h2 | h2)
        · exact h2 hsz
        · rw [hsz,this,← hs] at h2; omega
      have hsp:(v.cells.zipIdx.foldl (fun cs (x:Value × Nat) => cs.setIfInBounds (off + x.2) x.1) cells).toList = splice cells.toList off v.cells.toList:=by
        have h2:=fill_splice off v.cells.toList 0 cells (by
          have:cells.size = as.length:=by rw [hl1]; simp
          rw [this,← hl2]; simpa using hle)
        rw [← Array.foldl_toList,Array.toList_zipIdx]
        simpa using h2
      have hlen2:v.cells.toList.length = cs.length:=hl2.symm
      obtain ⟨out,ho,hor,ho1⟩:=ih (as:=splice as off cs) (rs:=rs) (cells:=v.cells.zipIdx.foldl (fun cs (x:Value × Nat) => cs.setIfInBounds (off + x.2) x.1) cells) (by rw [hsp]; exact ARs_splice hr hr' off)
        (by
          rw [hsp]
          intro y hy
          simp only [splice,List.mem_append] at hy
          rcases hy with (hy | hy) | hy
          · exact h1 y (List.mem_of_mem_take hy)
          · exact h1' y hy
          · exact h1 y (List.mem_of_mem_drop hy)) hf
      refine ⟨out,?_,hor,ho1⟩
      have hfit':¬ ((decide (v.cells.size ≠ size) || decide (off + v.cells.size > cells.size)) = true):=by simpa using hfit
      simp only [Instr.fill,hp]
      rw [if_neg hfit']
      exact ho
    · cases hf
theorem allSome_cons {α:Type} {x:Option α} {r:List (Option α)} {l:List α} (h:allSome (x :: r) = some l):∃ y ys,x = some y ∧ allSome r = some ys ∧ l = y :: ys:=by
  cases x with
  | none => simp [allSome] at h
  | some y =>
    simp only [allSome] at h
    split at h
    · rename_i ys hy; cases h; exact ⟨y,ys,rfl,hy,rfl⟩
    · cases h
theorem parts1_R (hT:TyOK P T) (h:Sim C σ a w ι Fs) (ha:Agr σ.o τ) {fields:Array Field} {sizes:List (Nat × Nat)}
    (hsz:∀ (f:Nat) (fl:Field),fields[f]? = some fl → ∀ i,T.lookup fl.type = some i → sizes[f]? = some (fl.offset,i.size)) :
    ∀ (parts:List (Nat × Operand)) (ps:List (Nat × List AV)),allSome (parts.map (part1 T (ev σ) τ (fields.toList.map fun f => (f.offset,f.type)))) = some ps →
      PartsR w (Un C w Fs) σ.o ι (fun i => sizes[i]?) ps (parts.map fun p => (p.1,a.eval p.2))
  | [],ps,hp => by simp [allSome] at hp; subst hp; exact .nil
  | p :: parts,ps,hp => by
    simp only [List.map_cons] at hp
    obtain ⟨y,ys,h1,h2,rfl⟩:=allSome_cons hp
    have ih:=parts1_R hT h ha hsz parts ys h2
    unfold part1 at h1
    split at h1
    · rename_i off ft cs hf hc
      split at h1
      · rename_i i hi
        split at h1
        · rename_i hl
          cases h1
          rw [List.getElem?_map] at hf
          cases hq:fields.toList[p.1]? with
          | none => rw [hq] at hf; cases hf
          | some fl =>
            rw [hq] at hf
            simp only [Option.map_some,Option.some.injEq,Prod.mk.injEq] at hf
            obtain ⟨rfl,rfl⟩:=hf
            obtain ⟨g1,g2⟩:=cellsOf_AR (U:=Un C w Fs) h ha (ev_AR h p.2) hc
            exact .cons (hsz p.1 fl (by simpa using hq) i hi) hl g1 g2 ih
        · cases h1
      · cases h1
    · cases h1
theorem mapM_places {fs:List Field} (h:∀ f,f ∈ fs → (P.info? f.type).isSome = true) :
    fs.mapM (fun f => (P.info? f.type).map fun i => (f.offset,i.size)) = some (fs.map fun f => (f.offset,P.cellsOf f.type)):=by
  induction fs with
  | nil => rfl
  | cons f fs ih =>
    obtain ⟨i,hi⟩:=Option.isSome_iff_exists.1 (h f List.mem_cons_self)
    rw [List.mapM_cons,ih (fun g hg => h g (List.mem_cons_of_mem _ hg))]
    simp [hi,Program.cellsOf]
theorem snd_build (hT:TyOK P T) (h:Sim C σ a w ι Fs) (ha:Agr σ.o τ) {t:Nat} {parts:Array (Nat × Operand)} (he:astep T mv (ev σ) τ ⟨dst,.build t parts,type,pos,after,guard⟩ = some e) :
    Snd P C σ a w ⟨dst,.build t parts,type,pos,after,guard⟩ e:=by
  simp only [astep] at he
  split at he
  · rename_i fs z1 z2 zero z4 hl
    have hM:=hT.m hl
    obtain ⟨fields,ht,hmap⟩:=hM.struct rfl
    obtain ⟨ti,z,hinfo,hsz,_,hz,hzm,_⟩:=hM.info
    split at he
    · rename_i ps hps
      split at he
      · rename_i cs hcs
        cases he
        subst hmap
        have hall:=hM.fld fields ht
        have hpl:=mapM_places hall
        have hR:=parts1_R hT h ha (fields:=fields) (sizes:=fields.toList.map fun f => (f.offset,P.cellsOf f.type)) (fun f fl hf i hi => by
          have hf':fields.toList[f]? = some fl:=by simpa using hf
          rw [List.getElem?_map,hf']
          obtain ⟨tj,_,hj,hjs,_⟩:=(hT.m hi).info
          simp [Program.cellsOf,hj,hjs]) parts.toList ps hps
        have hzr:=zmatches_ARs (w:=w) (U:=Un C w Fs) (O:=σ.o) (ι:=ι) (hzm (by simp))
        obtain ⟨out,ho,hor,_⟩:=fill_run hR hzr.1 hzr.2 hcs
        have hb:P.built t (parts.map fun (i,x) => (i,a.eval x)).toList = some out:=by
          unfold Program.built
          simp only [hinfo,ht,hz,hpl]
          have e:(fun (x:Nat) => (fields.toList.map fun f => (f.offset,P.cellsOf f.type)).toArray[x]?) = fun i => (fields.toList.map fun f => (f.offset,P.cellsOf f.type))[i]?:=by funext x; simp
          rw [e]
          simpa using ho
        refine Snd.pure h (v:=.agg out) ?_ ?_
        · simp only [execOp,Sem.run_bind,run_build w t _ out hb,Result.andThen_ok,Sem.run_pure]
        · simp only [AR]; exact ⟨out,rfl,hor⟩
      · cases he
    · cases he
  · cases he
end
end Am
namespace Am
open Go
theorem rep_get {α:Type} (z:List α) (hz:0 < z.length):∀ (n j:Nat),j < n * z.length → ((List.replicate n z).flatten)[j]? = z[j % z.length]?
  | 0,j,h => by simp at h
  | n + 1,j,h => by
    rw [List.replicate_succ,List.flatten_cons]
    by_cases hj:j < z.length
    · rw [List.getElem?_append_left hj,Nat.mod_eq_of_lt hj]
    · have hj':z.length ≤ j:=Nat.le_of_not_lt hj
      rw [List.getElem?_append_right hj',rep_get z hz n (j - z.length) (by rw [Nat.succ_mul] at h; omega),Nat.mod_eq_sub_mod hj']
theorem rep_length {α:Type} (z:List α) (n:Nat):((List.replicate n z).flatten).length = n * z.length:=by
  induction n with
  | zero => simp
  | succ n ih => rw [List.replicate_succ,List.flatten_cons,List.length_append,ih,Nat.succ_mul,Nat.add_comm]
theorem madeCells_rep (z:Array Value) (n:Nat) (hz:0 < z.size):(madeCells z (n * z.size)).toList = (List.replicate n z.toList).flatten:=by
  apply List.ext_getElem?
  intro j
  by_cases hj:j < n * z.size
  · have h1:j % z.size < z.size:=Nat.mod_lt _ hz
    rw [rep_get z.toList (by simpa using hz) n j (by simpa using hj)]
    simp [madeCells,hj,h1]
  · rw [List.getElem?_eq_none (by simp [madeCells]; omega),List.getElem?_eq_none (by rw [rep_length]; simpa using hj)]
theorem fillA_length:∀ {ps:List (Nat × List AV)} {cs rs:List AV},fillA cs ps = some rs → rs.length = cs.length
  | [],cs,rs,h => by simp only [fillA] at h; cases h; rfl
  | (off,xs) :: ps,cs,rs,h => by
    simp only [fillA] at h
    split at h
    · rename_i hle
      rw [fillA_length h,splice_length _ _ _ hle]
    · cases h
section
variable {P:Program} {T:Ty} {mv:Bool} {C:Ctx} {σ:AEnv} {a:Act} {w w':World} {ι:Nat → Value} {Fs:Nat → List Nat} {τ:Nat → AObj} {e:Eff}
variable {dst:Option Tmp} {type:TypeId} {pos:String} {after:Array Edge} {guard:Option (Nat × Bool)}
theorem ARs_rep {U:Nat → Prop} {O:Nat → AObj} {as:List AV} {vs:List Value} (h:ARs w U O ι as vs):∀ n,ARs w U O ι (List.replicate n as).flatten (List.replicate n vs).flatten
  | 0 => by simp [ARs]
  | n + 1 => by rw [List.replicate_succ,List.replicate_succ,List.flatten_cons,List.flatten_cons]; exact ARs_append h (ARs_rep h n)
theorem toPV_R (h:Sim C σ a w ι Fs) (ha:Agr σ.o τ) {x:AV} {v:Value} {p:PV} {gone:List Nat} (hx:AR w (Un C w Fs) σ.o ι x v) (hp:toPV τ x = some (p,gone)) :
    R w (Un C w Fs) p v (gone.flatMap Fs) ∧ ∀ g,g ∈ gone → σ.o g ≠ .none:=by
  unfold toPV at hp
  split at hp
  · split at hp
    · cases hp; exact ⟨AR_c.1 hx,by simp⟩
    · cases hp
  · cases hp
    simp only [AR] at hx
    subst hx
    exact ⟨by simp [R],by simp⟩
  · split at hp
    · rename_i o _ g0 e1 s1 n1 cs hτ
      cases hp
      obtain ⟨ho,hv⟩:=agr_arr ha hx hτ
      have hob:=h.ob o
      rw [ho] at hob
      obtain ⟨xs,F',hown,hr,hF⟩:=hob
      subst hv
      refine ⟨?_,by intro g hg; simp at hg; subst hg; rw [ho]; simp⟩
      simp only [R,List.flatMap_cons,List.flatMap_nil,List.append_nil]
      exact ⟨xs,F',hown,hr,hF⟩
    · cases hp
  · cases hp
theorem toPVs_R (h:Sim C σ a w ι Fs) (ha:Agr σ.o τ):∀ {xs:List AV} {vs:List Value} {ps:List PV} {gone:List Nat},ARs w (Un C w Fs) σ.o ι xs vs → toPVs τ xs = some (ps,gone) →
    Rs w (Un C w Fs) ps vs (gone.flatMap Fs) ∧ ∀ g,g ∈ gone → σ.o g ≠ .none
  | [],[],ps,gone,_,hp => by simp [toPVs] at hp; obtain ⟨rfl,rfl⟩:=hp; exact ⟨by simp [Rs],by simp⟩
  | x :: xs,v :: vs,ps,gone,hx,hp => by
    simp only [ARs] at hx
    simp only [toPVs] at hp
    split at hp
    · rename_i p l ps' ls h1 h2
      cases hp
      obtain ⟨g1,g2⟩:=toPV_R h ha hx.1 h1
      obtain ⟨g3,g4⟩:=toPVs_R h ha hx.2 h2
      refine ⟨by simp only [Rs,List.flatMap_append]; exact ⟨_,_,g1,g3,rfl⟩,?_⟩
      intro g hg
      simp only [List.mem_append] at hg
      rcases hg with hg | hg
      · exact g2 g hg
      · exact g4 g hg
    · cases hp
  | [],_ :: _,_,_,hx,_ => by simp only [ARs] at hx
  | _ :: _,[],_,_,hx,_ => by simp only [ARs] at hx
theorem gone_nodup (h:Sim C σ a w ι Fs):∀ {gone:List Nat},gone.Nodup → (gone.flatMap Fs).Nodup
  | [],_ => by simp
  | g :: gone,hn => by
    rw [List.nodup_cons] at hn
    rw [List.flatMap_cons,List.nodup_append]
    refine ⟨h.nd g,gone_nodup h hn.2,?_⟩
    intro b hb c hc e
    subst e
    obtain ⟨g',hg',hbg⟩:=List.mem_flatMap.1 hc
    exact h.dis g g' (fun e => hn.1 (e ▸ hg')) b hb hbg
theorem gone_own (h:Sim C σ a w ι Fs) {gone:List Nat} {b:Nat} (hb:b ∈ gone.flatMap Fs):b < w.heap.size ∧ ∃ g,g ∈ gone ∧ b ∈ Fs g:=by
  obtain ⟨g,hg,hbg⟩:=List.mem_flatMap.1 hb
  exact ⟨(h.own g b hbg).1,g,hg,hbg⟩
theorem Sim.newArr (h:Sim C σ a w ι Fs) {k:Nat} (hk:σ.o k = .none) {gone:List Nat} (hn:gone.Nodup) (hgone:∀ g,g ∈ gone → σ.o g ≠ .none) {ety esz n:Nat} {ps:List PV} {xs:List Value}
    (hr:Rs w (Un C w Fs) ps xs (gone.flatMap Fs)) {cap:Nat} (hg:w.grownBy w' none) (hd:w.drawn ≤ w'.drawn) (hnew:w.heap.size < w'.heap.size)
    (hown:w'.ownsRow 0 ety esz (.slice (some ⟨w.heap.size,0,none⟩) n cap) n xs) :
    ∃ ι' Fs',Sim C (AEnv.wr ((k,.arr 0 ety esz n ps) :: gone.map (·,.dead)) σ) a w' ι' Fs' ∧
      AR w' (Un C w' Fs') (AEnv.wr ((k,.arr 0 ety esz n ps) :: gone.map (·,.dead)) σ).o ι' (.arr k) (.slice (some ⟨w.heap.size,0,none⟩) n cap):=by
  have hb:∀ j,j < w.heap.size → (∀ g,g ∈ gone → j ∉ Fs g) → w'.heap[j]? = w.heap[j]?:=fun j hj _ => hg.block j hj (by simp)
  have hF:∀ b,b ∈ (w.heap.size :: gone.flatMap Fs) → b < w'.heap.size ∧ (w.heap.size ≤ b ∨ ∃ g,g ∈ gone ∧ b ∈ Fs g):=by
    intro b hb
    rcases List.mem_cons.1 hb with rfl | hb
    · exact ⟨hnew,.inl (Nat.le_refl _)⟩
    · obtain ⟨h1,h2⟩:=gone_own h hb
      exact ⟨by omega,.inr h2⟩
  have hL:=h.make_later (w':=w') (gone:=gone) hk (ob:=.arr 0 ety esz n ps) (v:=.slice (some ⟨w.heap.size,0,none⟩) n cap) (F:=w.heap.size :: gone.flatMap Fs) hgone hg.size hb hF
  refine ⟨_,_,h.make hk hgone hg.os ⟨hg.tape,hd⟩ hg.output hg.size hb hF ?_ ⟨xs,gone.flatMap Fs,hown,Rs_mono hL.u hL.heap _ _ _ hr (fun j hj => hg.block j (gone_own h hj).1 (by simp)),rfl⟩,?_⟩
  · rw [List.nodup_cons]
    refine ⟨fun hm => ?_,gone_nodup h hn⟩
    have:=(gone_own h hm).1
    omega
  · simp only [AR,AEnv.wr,AEnv.upd,if_true,fupd_same]
theorem partsS_R (h:Sim C σ a w ι Fs) (ha:Agr σ.o τ) (size:Nat):∀ (parts:List (Nat × Operand)) (ps:List (Nat × List AV)),allSome (parts.map (partS (ev σ) τ size)) = some ps →
    PartsR w (Un C w Fs) σ.o ι (fun i => some (i * size,size)) ps (parts.map fun p => (p.1,a.eval p.2))
  | [],ps,hp => by simp [allSome] at hp; subst hp; exact .nil
  | p :: parts,ps,hp => by
    simp only [List.map_cons] at hp
    obtain ⟨y,ys,h1,h2,rfl⟩:=allSome_cons hp
    have ih:=partsS_R h ha size parts ys h2
    unfold partS at h1
    split at h1
    · rename_i cs hc
      split at h1
      · rename_i hl
        cases h1
        obtain ⟨g1,g2⟩:=cellsOf_AR (U:=Un C w Fs) h ha (ev_AR h p.2) hc
        exact .cons rfl hl g1 g2 ih
      · cases h1
    · cases h1
theorem snd_buildSlice (hT:TyOK P T) (h:Sim C σ a w ι Fs) (ha:Agr σ.o τ) {t len:Nat} {parts:Array (Nat × Operand)} (he:astep T mv (ev σ) τ ⟨dst,.buildSlice t len parts,type,pos,after,guard⟩ = some e) (hs:e.side)
    (hf:∀ k ob,(k,ob) ∈ e.oe → τ k = .none → σ.o k = .none):Snd P C σ a w ⟨dst,.buildSlice t len parts,type,pos,after,guard⟩ e:=by
  simp only [astep] at he
  split at he
  · rename_i el z1 z2 z3 z4 hl
    have ht:=(hT.m hl).slice rfl
    split at he
    · rename_i i d hle
      have hM:=hT.m hle
      obtain ⟨ti,z,hinfo,hsz,_,hz,hzm,_⟩:=hM.info
      by_cases hok:¬ (0 < i.size ∧ i.zero.length = i.size ∧ isOther i.k = false)
      · rw [if_neg hok] at he; cases he
      have hok:=Decidable.not_not.1 hok
      rw [if_pos hok] at he
      have hko:i.k ≠ .other:=fun hk => by have:=hok.2.2; rw [hk] at this; cases this
      split at he
      · rename_i ps hps
        split at he
        · rename_i cs hcs
          split at he
          · rename_i pvs gone hpv
            cases he
            obtain ⟨hs1,hs2,hs3⟩:=hs
            have hk:=hf _ _ List.mem_cons_self hs1
            have hzr:=zmatches_ARs (w:=w) (U:=Un C w Fs) (O:=σ.o) (ι:=ι) (hzm hko)
            have hzl:z.cells.size = i.size:=by have:=ARs_length _ _ hzr.1; rw [hok.2.1] at this; simpa using this.symm
            have hzpos:0 < z.cells.size:=by rw [hzl]; exact hok.1
            have hpl:len * i.size = len * z.cells.size:=by rw [hzl]
            have hmc:=madeCells_rep z.cells len hzpos
            have h0:ARs w (Un C w Fs) σ.o ι (List.replicate len i.zero).flatten (madeCells z.cells (len * i.size)).toList:=by
              rw [hpl,hmc]; exact ARs_rep hzr.1 len
            have h1:∀ y,y ∈ (madeCells z.cells (len * i.size)).toList → y.oneCell' = true:=by
              rw [hpl,hmc]
              intro y hy
              obtain ⟨l,hl,hy⟩:=List.mem_flatten.1 hy
              obtain ⟨_,rfl⟩:=List.mem_replicate.1 hl
              exact hzr.2 y hy
            obtain ⟨out,ho,hor,ho1⟩:=fill_run (partsS_R h ha i.size parts.toList ps hps) h0 h1 hcs
            obtain ⟨hR,hgone⟩:=toPVs_R h ha hor hpv
            have hlen:out.size = len * i.size:=by
              have e1:=ARs_length _ _ hor
              rw [fillA_length hcs,rep_length,hok.2.1] at e1
              simpa using e1.symm
            have hmax:len ≤ maxLen:=by
              have h1:len * 1 ≤ len * i.size:=Nat.mul_le_mul_left _ hok.1
              unfold maxLen; omega
            obtain ⟨ι',Fs',hS,hA⟩:=h.newArr (w':=w.alloc (.cells out el)) hk hs2 hgone hR (cap:=len) (grownBy_alloc_none w _) (Nat.le_refl _) (by simp)
              ⟨by simpa using hlen,.inr ⟨w.heap.size,len,out,rfl,Nat.zero_le _,heap_alloc_new w _,Nat.le_refl _,hmax,hlen,by rw [← hlen,← Array.length_toList,List.take_length]⟩⟩
            refine ⟨_,_,ι',Fs',_,?_,.inl rfl,hS,hA⟩
            have hz0:=hM.run_sizeOf w
            have hpos:¬ (len * i.size > 16777216):=by omega
            have hfill:Instr.fill (fun i_1 => some (i_1 * i.size,i.size)) (madeCells z.cells (len * i.size)) (parts.toList.map fun p => (p.1,a.eval p.2)) = some out:=ho
            have hrun:(Instr.buildSlice t len (parts.map fun (i,x) => (i,a.eval x))).run P w = .ok (.slice (some ⟨w.heap.size,0,none⟩) len len) (w.alloc (.cells out el)):=by
              by_cases hzero:len * i.size = 0
              · have hl0:len = 0:=by
                  rcases Nat.mul_eq_zero.1 hzero with h | h
                  · exact h
                  · have:=hok.1; omega
                subst hl0
                have hmk:madeCells z.cells (0 * i.size) = #[]:=by simp [madeCells]
                rw [hmk] at hfill
                simp [Instr.buildSlice,run_underlying ht,hz0,hfill,newRow,show Array.range 0 = #[] from rfl]
              · simp only [madeCells] at hfill
                simp [Instr.buildSlice,run_underlying ht,hz0,hpos,hzero,zeroValue,typeInfo,hinfo,hz,hfill,newRow]
            simp only [execOp,Sem.run_bind,hrun,Result.andThen_ok,Sem.run_pure]
          · cases he
        · cases he
      · cases he
    · cases he
  · cases he
end
end Am
namespace Am
open Go
section
variable {P:Program} {T:Ty} {mv:Bool} {C:Ctx} {σ:AEnv} {a:Act} {w w':World} {ι:Nat → Value} {Fs:Nat → List Nat} {τ:Nat → AObj} {e:Eff}
variable {dst:Option Tmp} {type:TypeId} {pos:String} {after:Array Edge} {guard:Option (Nat × Bool)}
theorem Rs_rep {U:Nat → Prop} {ps:List PV} {vs:List Value} (h:Rs w U ps vs []):∀ n,Rs w U (List.replicate n ps).flatten (List.replicate n vs).flatten []
  | 0 => by simp [Rs]
  | n + 1 => by rw [List.replicate_succ,List.replicate_succ,List.flatten_cons,List.flatten_cons]; exact Rs_append _ _ _ _ [] [] h (Rs_rep h n)
theorem snd_makeSlice (hT:TyOK P T) (h:Sim C σ a w ι Fs) {t:Nat} {l c:Operand} (he:astep T mv (ev σ) τ ⟨dst,.makeSlice t l c,type,pos,after,guard⟩ = some e) (hs:e.side)
    (hf:∀ k ob,(k,ob) ∈ e.oe → τ k = .none → σ.o k = .none):Snd P C σ a w ⟨dst,.makeSlice t l c,type,pos,after,guard⟩ e:=by
  simp only [astep] at he
  split at he
  · rename_i el z1 z2 z3 z4 d k1 n k2 m hl hl1 hl2
    have ht:=(hT.m hl).slice rfl
    split at he
    · rename_i i hle
      have hM:=hT.m hle
      obtain ⟨ti,z,hinfo,hsz,hby,hz,hzm,_⟩:=hM.info
      split at he
      · rename_i zs hzs
        by_cases hok:¬ (0 < i.size ∧ i.zero.length = i.size ∧ isOther i.k = false)
        · rw [if_neg hok] at he; cases he
        have hok:=Decidable.not_not.1 hok
        rw [if_pos hok] at he
        have hko:i.k ≠ .other:=fun hk => by have:=hok.2.2; rw [hk] at this; cases this
        cases he
        obtain ⟨hs1,rfl,h0,hb,hm⟩:=hs
        have hk:=hf _ _ List.mem_cons_self hs1
        have hv1:=ev_AR h l
        rw [hl1] at hv1
        have hv1:=AR_int hv1
        have hv2:=ev_AR h c
        rw [hl2] at hv2
        have hv2:=AR_int hv2
        have hzr:=zmatches_ARs (w:=w) (U:=Un C w Fs) (O:=σ.o) (ι:=ι) (hzm hko)
        have hzl:z.cells.size = i.size:=by have:=ARs_length _ _ hzr.1; rw [hok.2.1] at this; simpa using this.symm
        have hzpos:0 < z.cells.size:=by rw [hzl]; exact hok.1
        have hR:=(toPVs_R (τ:=fun _ => .none) h (fun k _ hk => absurd rfl hk) hzr.1 hzs).1
        obtain ⟨N,rfl⟩:∃ N:Nat,n = N:=⟨n.toNat,by omega⟩
        simp only [Int.toNat_natCast] at hb hm ⊢
        have hcap:capMax = 1099511627776:=rfl
        have hmax:N ≤ maxLen:=by unfold maxLen; omega
        obtain ⟨w',hrun,hown,hg⟩:=run_make_full (P:=P) w 0 t el ti z i.size ht hinfo hz hsz k1 k2 N (by rw [hby,Nat.mul_comm]; omega) hmax (Nat.zero_le _)
        have hnew:w.heap.size < w'.heap.size:=by
          rcases hown.2 with ⟨hv,_⟩ | ⟨g,cap,cur,hv,_,hg,_⟩
          · simp at hv
          · simp only [Value.slice.injEq,Option.some.injEq,Addr.mk.injEq] at hv
            obtain ⟨⟨rfl,_⟩,_⟩:=hv
            exact (Array.getElem?_eq_some_iff.1 hg).1
        have hmr:(madeCells z.cells (N * i.size)).toList = (List.replicate N z.cells.toList).flatten:=by
          rw [← hzl]; exact madeCells_rep z.cells N hzpos
        rw [hmr] at hown
        obtain ⟨ι',Fs',hS,hA⟩:=h.newArr (w':=w') hk (gone:=[]) (by simp) (by simp) (Rs_rep hR N) (cap:=N) hg (run_drawn hrun) hnew hown
        refine ⟨_,w',ι',Fs',_,?_,.inl rfl,hS,hA⟩
        simp only [execOp,hv1,hv2,Sem.run_bind,hrun,Result.andThen_ok,Sem.run_pure]
      · cases he
    · cases he
  · cases he
theorem append_run {t ty el:Nat} {ti:TypeInfo} {z:Value} {size bytes:Nat} (ht:P.underlying t = some (.slice el)) (hi:P.info? el = some ti) (hz:ti.zero = some z)
    (hsize:ti.size = size) (hby:ti.bytes = bytes) (hzs:z.cells.size = size) (hsz:0 < size)
    {v:Value} {n:Nat} {xs:List Value} (hown:w.ownsRow 0 el size v n xs)
    {u:Value} {m:Nat} {news:List Value} (hu:∃ ad c,u = .slice ad m c) (hmem:news = [] ∨ ∃ b off c,u = .slice (some ⟨b,off,none⟩) m c ∧ memAt w b off news)
    (hl:news.length = m * size) (h1:∀ y,y ∈ news → y.oneCell' = true)
    (h63:n + m ≤ maxLen) (hbytes:(n + m) * bytes ≤ 140737488355328) :
    ∃ v' w',(Builtin.append_ #[t,t] ty #[v,u]).run P w = .ok v' w' ∧ w'.ownsRow 0 el size v' (n + m) (xs ++ news) ∧ w.grownBy w' v.ownBlock ∧
      (v'.ownBlock = v.ownBlock ∨ (v'.ownBlock = some w.heap.size ∧ w.heap.size < w'.heap.size)):=by
  by_cases hm0:m = 0
  · subst hm0
    have hn:news = []:=List.eq_nil_of_length_eq_zero (by simpa using hl)
    subst hn
    obtain ⟨ad,c,rfl⟩:=hu
    refine ⟨v,w,?_,by simpa using hown,⟨rfl,rfl,rfl,Nat.le_refl _,fun _ _ _ => rfl⟩,.inl rfl⟩
    have hs0:(Go.sizeOf el).run P w = .ok size w:=by simp [Go.sizeOf,typeInfo,hi,hsize]
    have hf:(Builtin.firstCells size 0 (.slice ad 0 c)).run P w = .ok #[] w:=by
      cases ad with
      | none => simp [Builtin.firstCells]
      | some ad => simp [Builtin.firstCells,loadCells,loadCellsFrom]
    rcases hown.2 with ⟨rfl,rfl⟩ | ⟨g,cap,cur,rfl,_,hg,hnc,_⟩
    · simp [Builtin.append_,run_underlying ht,hs0,Builtin.lenOf,hf]
    · simp [Builtin.append_,run_underlying ht,hs0,Builtin.lenOf,hf,hnc,storeCells]
  · have hne:news ≠ []:=by
      intro hn
      rw [hn] at hl
      simp only [List.length_nil] at hl
      rcases Nat.mul_eq_zero.1 hl.symm with h | h <;> omega
    rcases hmem with hmem | ⟨b,off,c,rfl,hmem⟩
    · exact absurd hmem hne
    have hnews:∀ j y,news[j]? = some y → w.cell? ((⟨b,off,none⟩:Addr).add j) = some y:=fun j y hy => by rw [addr_add]; exact hmem j y hy
    obtain ⟨v',w',hrun,hown',hg,_⟩:=run_append_own (P:=P) w 0 t ty el ti z size bytes ht hi hz hsize hby hzs hsz v n xs hown ⟨b,off,none⟩ m c news hl hnews h1 h63 hbytes (Nat.zero_le _)
    refine ⟨v',w',hrun,hown',hg,?_⟩
    subst hsize
    subst hby
    have hsmall:n + m ≤ 9223372036854775807:=by simp only [maxLen] at h63; omega
    rcases hown.2 with ⟨rfl,rfl⟩ | ⟨g,cap,cur,rfl,_,hgg,hnc,_,hcs,htake⟩
    · have hr:=run_append_nil (P:=P) w t ty el ti z ht hi hz ⟨b,off,none⟩ m c news hl hnews (by omega) (by omega) (by have hb:=hbytes; simp only [Nat.zero_add] at hb; omega)
      rw [hrun] at hr
      cases hr
      exact .inr ⟨rfl,by simp⟩
    · by_cases hroom:n + m ≤ cap
      · have hfit:n * ti.size + news.length ≤ cur.size:=by rw [hl,hcs,← Nat.add_mul]; exact Nat.mul_le_mul_right _ hroom
        have hr:=run_append_room (P:=P) w t ty el ti ht hi g n cap cur hgg ⟨b,off,none⟩ m c news hl hnews h1 hroom hfit
        rw [hrun] at hr
        cases hr
        exact .inl rfl
      · have holds:∀ j y,xs[j]? = some y → w.cell? ((⟨g,0,none⟩:Addr).add j) = some y:=hown.cells (g:=g) rfl
        have hr:=run_append_grow (P:=P) w t ty el ti z ht hi hz ⟨g,0,none⟩ n cap xs hown.1 holds ⟨b,off,none⟩ m c news hl hnews (by omega) (by omega) (growslice_fits (by omega) hbytes)
        rw [hrun] at hr
        cases hr
        exact .inr ⟨rfl,by simp⟩
theorem Rs_oneCell {U:Nat → Prop}:∀ {ps:List PV} {vs:List Value} {F:List Nat},Rs w U ps vs F → ∀ y,y ∈ vs → y.oneCell' = true
  | [],[],_,_,y,hy => by cases hy
  | p :: ps,v :: vs,F,h,y,hy => by
    simp only [Rs] at h
    obtain ⟨F1,F2,h1,h2,_⟩:=h
    rcases List.mem_cons.1 hy with rfl | hy
    · exact (R_oneCell h1).1
    · exact Rs_oneCell h2 y hy
  | [],_ :: _,_,h,_,_ => by simp only [Rs] at h
  | _ :: _,[],_,h,_,_ => by simp only [Rs] at h
theorem readA_R (h:Sim C σ a w ι Fs) (ha:Agr σ.o τ) {x:AV} {u:Value} {m:Nat} {cs:List PV} {gone:List Nat} (hx:AR w (Un C w Fs) σ.o ι x u) (hr:readA τ x = some (m,cs,gone)) :
    ∃ news F,(∃ ad c,u = .slice ad m c) ∧ (news = [] ∨ ∃ b off c,u = .slice (some ⟨b,off,none⟩) m c ∧ memAt w b off news) ∧ Rs w (Un C w Fs) cs news F ∧ F.Nodup ∧
      (∀ b,b ∈ F → ∃ g,g ∈ gone ∧ b ∈ Fs g) ∧ (∀ g,g ∈ gone → σ.o g ≠ .none) ∧ gone.Nodup:=by
  unfold readA at hr
  split at hr
  · cases hr
    simp only [AR,R] at hx
    obtain ⟨_,ad,cap,rfl,_,hc⟩:=hx
    rcases hc with rfl | ⟨b,off,xs,rfl,_,hm,hr⟩
    · exact ⟨[],[],⟨_,_,rfl⟩,.inl rfl,by simp [Rs],by simp,by simp,by simp,by simp⟩
    · exact ⟨xs,[],⟨_,_,rfl⟩,.inr ⟨b,off,cap,rfl,hm⟩,hr,by simp,by simp,by simp,by simp⟩
  · cases hr
    simp only [AR] at hx
    exact ⟨[],[],⟨_,_,hx⟩,.inl rfl,by simp [Rs],by simp,by simp,by simp,by simp⟩
  · rename_i o
    split at hr
    · rename_i g0 e1 s1 n1 cs1 hτ
      cases hr
      obtain ⟨ho,hv⟩:=agr_arr ha hx hτ
      have hob:=h.ob o
      rw [ho] at hob
      obtain ⟨xs,F',hown,hrs,hF⟩:=hob
      have hnd:=h.nd o
      rw [hF] at hnd
      have hshape:(∃ ad c,u = .slice ad m c) ∧ (xs = [] ∨ ∃ b off c,u = .slice (some ⟨b,off,none⟩) m c ∧ memAt w b off xs):=by
        subst hv
        rcases hown.2 with ⟨hv,rfl⟩ | ⟨g,cap,cur,hv,_⟩
        · exact ⟨⟨_,_,hv⟩,.inl (List.eq_nil_of_length_eq_zero (by simpa using hown.1))⟩
        · refine ⟨⟨_,_,hv⟩,.inr ⟨g,0,cap,hv,fun j y hy => ?_⟩⟩
          have:=hown.cells (g:=g) (by rw [hv]; rfl) j y hy
          rwa [addr_add] at this
      by_cases hfree:cs.all isFree = true
      · have:=Rs_free hrs hfree
        subst this
        rw [if_pos hfree]
        exact ⟨xs,[],hshape.1,hshape.2,hrs,by simp,by simp,by simp,by simp⟩
      · rw [if_neg hfree]
        refine ⟨xs,F',hshape.1,hshape.2,hrs,(List.nodup_append.1 hnd).2.1,fun b hb => ⟨o,by simp,by rw [hF]; simp [hb]⟩,fun g hg => ?_,by simp⟩
        simp at hg; subst hg; rw [ho]; simp
    · cases hr
  · cases hr
theorem Sim.appended (h:Sim C σ a w ι Fs) {k:Nat} (hk:σ.o k = .none) {gone:List Nat} (hgone:∀ g,g ∈ gone → σ.o g ≠ .none) {ety esz n:Nat} {ps:List PV} {xs:List Value} {F:List Nat} {v v':Value}
    (hr:Rs w (Un C w Fs) ps xs F) (hFn:F.Nodup) (hFg:∀ b,b ∈ F → ∃ g,g ∈ gone ∧ b ∈ Fs g) (hvg:∀ b,v.ownBlock = some b → (∃ g,g ∈ gone ∧ b ∈ Fs g) ∧ b ∉ F)
    (hg:w.grownBy w' v.ownBlock) (hd:w.drawn ≤ w'.drawn) (hown:w'.ownsRow 0 ety esz v' n xs) (hv':v'.ownBlock = v.ownBlock ∨ (v'.ownBlock = some w.heap.size ∧ w.heap.size < w'.heap.size)) :
    ∃ ι' Fs',Sim C (AEnv.wr ((k,.arr 0 ety esz n ps) :: gone.map (·,.dead)) σ) a w' ι' Fs' ∧
      AR w' (Un C w' Fs') (AEnv.wr ((k,.arr 0 ety esz n ps) :: gone.map (·,.dead)) σ).o ι' (.arr k) v':=by
  have hb:∀ j,j < w.heap.size → (∀ g,g ∈ gone → j ∉ Fs g) → w'.heap[j]? = w.heap[j]?:=fun j hj hn => hg.block j hj (fun e => by
    obtain ⟨⟨g,hgg,hjg⟩,_⟩:=hvg j e.symm
    exact hn g hgg hjg)
  have hFlt:∀ b,b ∈ F → b < w.heap.size:=fun b hb => by
    obtain ⟨g,_,hbg⟩:=hFg b hb
    exact (h.own g b hbg).1
  have hF:∀ b,b ∈ (v'.ownBlock.toList ++ F) → b < w'.heap.size ∧ (w.heap.size ≤ b ∨ ∃ g,g ∈ gone ∧ b ∈ Fs g):=by
    intro b hb
    rcases List.mem_append.1 hb with hb | hb
    · have hb':v'.ownBlock = some b:=by simpa using hb
      rcases hv' with e | ⟨e,hlt⟩
      · rw [e] at hb'
        obtain ⟨⟨g,hgg,hbg⟩,_⟩:=hvg b hb'
        exact ⟨Nat.lt_of_lt_of_le (h.own g b hbg).1 hg.size,.inr ⟨g,hgg,hbg⟩⟩
      · rw [e] at hb'
        cases hb'
        exact ⟨hlt,.inl (Nat.le_refl _)⟩
    · exact ⟨Nat.lt_of_lt_of_le (hFlt b hb) hg.size,.inr (hFg b hb)⟩
  have hL:=h.make_later (w':=w') (gone:=gone) hk (ob:=.arr 0 ety esz n ps) (v:=v') (F:=v'.ownBlock.toList ++ F) hgone hg.size hb hF
  refine ⟨_,_,h.make hk hgone hg.os ⟨hg.tape,hd⟩ hg.output hg.size hb hF ?_ ⟨xs,F,hown,Rs_mono hL.u hL.heap _ _ _ hr (fun j hj => hg.block j (hFlt j hj) (fun e => (hvg j e.symm).2 hj)),rfl⟩,?_⟩
  · rw [List.nodup_append]
    refine ⟨by cases v'.ownBlock <;> simp,hFn,fun b hb c hc e => ?_⟩
    subst e
    have hb':v'.ownBlock = some b:=by simpa using hb
    rcases hv' with e | ⟨e,_⟩
    · rw [e] at hb'; exact (hvg b hb').2 hc
    · rw [e] at hb'; cases hb'; have:=hFlt _ hc; omega
  · simp only [AR,AEnv.wr,AEnv.upd,if_true,fupd_same]
end
end Am
namespace Am
open Go
section
variable {P:Program} {T:Ty} {mv:Bool} {C:Ctx} {σ:AEnv} {a:Act} {w w':World} {ι:Nat → Value} {Fs:Nat → List Nat} {τ:Nat → AObj} {e:Eff}
variable {dst:Option Tmp} {type:TypeId} {pos:String} {after:Array Edge} {guard:Option (Nat × Bool)}
theorem snd_append (hT:TyOK P T) (h:Sim C σ a w ι Fs) (ha:Agr σ.o τ) {s x:Operand} {t t':Nat} (he:abuiltin T τ dst .append [ev σ s,ev σ x] [t,t'] = some e) (hs:e.side)
    (hf:∀ k ob,(k,ob) ∈ e.oe → τ k = .none → σ.o k = .none):Snd P C σ a w ⟨dst,.call ⟨.builtin .append,#[s,x],#[t,t']⟩,type,pos,after,guard⟩ e:=by
  simp only [abuiltin] at he
  by_cases htt:¬ t = t'
  · rw [if_neg htt] at he; cases he
  have htt:=Decidable.not_not.1 htt
  rw [if_pos htt] at he
  subst htt
  split at he
  · rename_i el z1 z2 z3 z4 d hl
    have ht:=(hT.m hl).slice rfl
    split at he
    · rename_i i m cs gone hle hrd
      have hM:=hT.m hle
      obtain ⟨ti,z,hinfo,hsz,hby,hz,hzm,_⟩:=hM.info
      by_cases hok:¬ (0 < i.size ∧ i.zero.length = i.size ∧ isOther i.k = false)
      · rw [if_neg hok] at he; cases he
      have hok:=Decidable.not_not.1 hok
      rw [if_pos hok] at he
      have hko:i.k ≠ .other:=fun hk => by have:=hok.2.2; rw [hk] at this; cases this
      have hzr:=zmatches_ARs (w:=w) (U:=Un C w Fs) (O:=σ.o) (ι:=ι) (hzm hko)
      have hzl:z.cells.size = i.size:=by have:=ARs_length _ _ hzr.1; rw [hok.2.1] at this; simpa using this.symm
      obtain ⟨news,F,hu,hmem,hR,hFn,hFg,hgone,hgn⟩:=readA_R h ha (ev_AR h x) hrd
      have hlen:=Rs_length _ _ _ hR
      have hone:=Rs_oneCell hR
      have hcap:capMax = 1099511627776:=rfl
      split at he
      · rename_i hsx
        cases he
        obtain ⟨hs1,hs2,hs3,hs4⟩:=hs
        have hk:=hf _ _ List.mem_cons_self hs1
        have hv:=ev_AR h s
        rw [hsx] at hv
        simp only [AR] at hv
        obtain ⟨v',w',hrun,hown,hg,hv'⟩:=append_run (P:=P) (ty:=type) ht hinfo hz hsz hby hzl hok.1 (World.ownsRow_nil w 0 el i.size) hu hmem (by rw [← hlen]; exact hs2) hone (by unfold maxLen; omega) (by rw [Nat.zero_add]; omega)
        simp only [Nat.zero_add,List.nil_append] at hown
        obtain ⟨ι',Fs',hS,hA⟩:=h.appended (v:=.slice none 0 0) hk hgone hR hFn hFg (by simp [Value.ownBlock]) hg (run_drawn hrun) hown hv'
        refine ⟨_,w',ι',Fs',_,?_,.inl rfl,hS,hA⟩
        simp [execOp,resolve,invoke,builtin,hv,hrun]
      · rename_i b hsx
        split at he
        · rename_i g0 e1 k1 n ds hτ
          by_cases hek:¬ (e1 = el ∧ k1 = i.size)
          · rw [if_neg hek] at he; cases he
          have hek:=Decidable.not_not.1 hek
          rw [if_pos hek] at he
          obtain ⟨rfl,rfl⟩:=hek
          cases he
          obtain ⟨hs1,hs2,hs3,hs4,hs5⟩:=hs
          have hk:=hf _ _ List.mem_cons_self hs1
          have hv:=ev_AR h s
          rw [hsx] at hv
          obtain ⟨ho,hv⟩:=agr_arr ha hv hτ
          have hob:=h.ob b
          rw [ho] at hob
          obtain ⟨xs,F',hownb,hrs,hFb⟩:=hob
          obtain ⟨v',w',hrun,hown,hg,hv'⟩:=append_run (P:=P) (ty:=type) ht hinfo hz hsz hby hzl hok.1 hownb hu hmem (by rw [← hlen]; exact hs3) hone (by unfold maxLen; omega) (by omega)
          have hndb:=h.nd b
          rw [hFb,List.nodup_append] at hndb
          have hFF:∀ y,y ∈ F' → y ∉ F:=fun y hy hy' => by
            obtain ⟨g,hgg,hyg⟩:=hFg y hy'
            exact h.dis b g (fun e => hs2 (e ▸ hgg)) y (by rw [hFb]; simp [hy]) hyg
          obtain ⟨ι',Fs',hS,hA⟩:=h.appended (gone:=b :: gone) (v:=ι b) (F:=F' ++ F) hk (fun g hg => by
              rcases List.mem_cons.1 hg with rfl | hg
              · rw [ho]; simp
              · exact hgone g hg) (Rs_append _ _ _ _ _ _ hrs hR) (List.nodup_append.2 ⟨hndb.2.1,hFn,fun y hy c hc e => hFF y hy (e ▸ hc)⟩)
            (fun y hy => by
              rcases List.mem_append.1 hy with hy | hy
              · exact ⟨b,by simp,by rw [hFb]; simp [hy]⟩
              · obtain ⟨g,hgg,hyg⟩:=hFg y hy
                exact ⟨g,by simp [hgg],hyg⟩)
            (fun y hy => ⟨⟨b,by simp,by rw [hFb,hy]; simp⟩,fun hm => by
              rcases List.mem_append.1 hm with hm | hm
              · exact hndb.2.2 y (by rw [hy]; simp) y hm rfl
              · obtain ⟨g,hgg,hyg⟩:=hFg y hm
                exact h.dis b g (fun e => hs2 (e ▸ hgg)) y (by rw [hFb,hy]; simp) hyg⟩) hg (run_drawn hrun) hown hv'
          refine ⟨_,w',ι',Fs',_,?_,.inl rfl,hS,hA⟩
          simp [execOp,resolve,invoke,builtin,hv,hrun]
        · cases he
      · cases he
    · cases he
  · cases he
theorem snd_trunc (hT:TyOK P T) (h:Sim C σ a w ι Fs) (ha:Agr σ.o τ) {t el z0 z1:Nat} {z2:List AV} {z3:Bool} {x hh:Operand} {b d:Nat} {sd s2:Prop} {g1 e1 k1 n:Nat} {cs:List PV} {k2:IntKind} {m:Int}
    (hl:T.lookup t = some ⟨.slice el,z0,z1,z2,z3⟩) (hx:(ev σ x).ug = (sd,.arr b)) (hτ:τ b = .arr g1 e1 k1 n cs) (hm:(ev σ hh).ug = (s2,.c (.int k2 m)))
    (hs:sd ∧ s2 ∧ 0 ≤ m ∧ m ≤ n ∧ τ (64 * d) = .none ∧ cs.all isFree = true) (hf:τ (64 * d) = .none → σ.o (64 * d) = .none) (hel:∃ i,T.lookup el = some i) :
    Snd P C σ a w ⟨some d,.slice t x none (some hh) none,type,pos,after,guard⟩ ⟨sd ∧ s2 ∧ 0 ≤ m ∧ m ≤ n ∧ τ (64 * d) = .none ∧ cs.all isFree = true,.arr (64 * d),[(64 * d,.arr 0 e1 k1 m.toNat (cs.take (m.toNat * k1))),(b,.dead)]⟩:=by
  obtain ⟨hs0,hs2,h0,hmn,hk0,hfree⟩:=hs
  have ht:=(hT.m hl).slice rfl
  obtain ⟨i,hi⟩:=hel
  have hz:=(hT.m hi).run_sizeOf w
  have hk:=hf hk0
  obtain ⟨ho,hv⟩:=agr_arr ha (ev_ug h x hx hs0) hτ
  have hv2:=AR_int (ev_ug h hh hm hs2)
  have hob:=h.ob b
  rw [ho] at hob
  obtain ⟨xs,F',hown,hrs,hF⟩:=hob
  obtain ⟨F1,F2,hr1,_,hFF⟩:=Rs_split (m.toNat * k1) _ _ _ hrs
  have hF':=Rs_free hrs hfree
  subst hF'
  have hF1:F1 = []:=(List.append_eq_nil_iff.1 hFF.symm).1
  subst hF1
  have key:∃ v',(Instr.sliceAt t (ι b) none (some (.int k2 m)) none).run P w = .ok v' w ∧ w.ownsRow 0 e1 k1 v' m.toNat (xs.take (m.toNat * k1)) ∧ v'.ownBlock = (ι b).ownBlock:=by
    have hlen:(xs.take (m.toNat * k1)).length = m.toNat * k1:=by
      rw [List.length_take,hown.1]
      exact Nat.min_eq_left (Nat.mul_le_mul_right _ (by omega))
    rcases hown.2 with ⟨hv',rfl⟩ | ⟨g,cap,cur,hv',hb0,hg,hnc,hcm,hcs,htake⟩
    · have hm0:m = 0:=by omega
      subst hm0
      have hb:=sliceBounds_run (P:=P) (w:=w) true 0 0 (Nat.le_refl _) none (some (.int k2 0)) 0 0 .i64 k2 (.inl ⟨rfl,rfl⟩) (.inr rfl) (by omega) (by omega) (by omega)
      rw [hv']
      refine ⟨.slice none 0 0,by simp [Instr.sliceAt,Instr.slice,run_underlying ht,hb,hz],⟨hlen,.inl ⟨rfl,rfl⟩⟩,rfl⟩
    · have hb:=sliceBounds_run (P:=P) (w:=w) true n cap hnc none (some (.int k2 m)) 0 m .i64 k2 (.inl ⟨rfl,rfl⟩) (.inr rfl) (by omega) h0 hmn
      rw [hv']
      have ha0:(⟨g,0,none⟩:Addr).add 0 = ⟨g,0,none⟩:=rfl
      refine ⟨.slice (some ⟨g,0,none⟩) m.toNat cap,?_,⟨hlen,.inr ⟨g,cap,cur,rfl,hb0,hg,by omega,hcm,hcs,?_⟩⟩,rfl⟩
      · simp [Instr.sliceAt,Instr.slice,run_underlying ht,hb,hz,ha0]
      · rw [← htake,List.take_take]
        congr 1
        exact (Nat.min_eq_left (Nat.mul_le_mul_right _ (by omega))).symm
  obtain ⟨v',hrun,hown',hob'⟩:=key
  obtain ⟨ι',Fs',hS,hA⟩:=h.appended (w':=w) (k:=64 * d) (gone:=[b]) (v:=ι b) (F:=[]) hk (by intro g hg; simp at hg; subst hg; rw [ho]; simp) hr1 (by simp) (by simp)
    (fun y hy => ⟨⟨b,by simp,by rw [hF,hy]; simp⟩,by simp⟩) ⟨rfl,rfl,rfl,Nat.le_refl _,fun _ _ _ => rfl⟩ (Nat.le_refl _) hown' (.inl hob')
  refine ⟨_,w,ι',Fs',_,?_,.inl rfl,hS,hA⟩
  simp only [execOp,hv,hv2,Option.map_none,Option.map_some,Sem.run_bind,hrun,Result.andThen_ok,Sem.run_pure]
theorem splice_getElem? {α:Type} (l:List α) (off:Nat) (xs:List α) (h:off + xs.length ≤ l.length) (j:Nat):(splice l off xs)[j]? = if off ≤ j ∧ j < off + xs.length then xs[j - off]? else l[j]?:=by
  unfold splice
  have h1:(l.take off).length = off:=by simp; omega
  by_cases hj:j < off
  · rw [List.append_assoc,List.getElem?_append_left (by rw [h1]; exact hj),if_neg (by omega),List.getElem?_take,if_pos hj]
  · by_cases hj2:j < off + xs.length
    · rw [List.append_assoc,List.getElem?_append_right (by rw [h1]; omega),h1,List.getElem?_append_left (by omega),if_pos ⟨by omega,hj2⟩]
    · rw [List.getElem?_append_right (by rw [List.length_append,h1]; omega),List.length_append,h1,if_neg (by omega),List.getElem?_drop]
      congr 1
      omega
theorem storeAt_run {t:Nat} {i:TyI} (hi:TyM P t i) {g off:Nat} {cur:Array Value} {ty:Nat} {v:Value} (hg:w.heap[g]? = some (.cells cur ty (0,0))) (hsz:v.cells.size = i.size) (hfit:off + v.cells.size ≤ cur.size)
    (h1:∀ y,y ∈ v.cells.toList → y.oneCell' = true) :
    (Instr.storeAt t (.pointer (some ⟨g,off,none⟩)) v).run P w = .ok () (w.setRow g (splice cur.toList off v.cells.toList).toArray):=by
  have hz:=hi.run_sizeOf w
  have hst:=run_storeCells_at P g off ty v.cells.toList 0 cur w hg (by simpa using hfit) h1
  have hne:¬ (v.cells.size ≠ i.size):=fun h => h hsz
  simp only [Instr.storeAt,Instr.sureAddr,storeVar,Sem.run_bind,Sem.run_pure,Result.andThen_ok,hz,Sem.run_ite,if_neg hne,hst]
  rfl
theorem Sim.edit_later (h:Sim C σ a w ι Fs) {b:Nat} {ob:AObj} {F:List Nat} (hsize:w.heap.size ≤ w'.heap.size) (hblock:∀ j,j < w.heap.size → j ∉ Fs b → w'.heap[j]? = w.heap[j]?) (hF:∀ y,y ∈ F → y ∈ Fs b)
    (hkind:(∃ cs cs',σ.o b = .box cs ∧ ob = .box cs') ∨ (∃ g ety esz n cs g' ety' esz' n' cs',σ.o b = .arr g ety esz n cs ∧ ob = .arr g' ety' esz' n' cs' ∧ g ≤ g' ∧
      (g = g' → ∀ off,isOw cs' off → isOw cs off ∧ ∀ k,(ι b).ownBlock = some k → w'.cell? ⟨k,off,none⟩ = w.cell? ⟨k,off,none⟩)) ∨ (∃ Q Q',σ.o b = .mp Q ∧ ob = .mp Q')) :
    Later w w' (Un C w Fs) (Un C w' (fupd Fs b F)) σ.o (σ.upd b ob).o ι ι:=by
  have ho':∀ x,(σ.upd b ob).o x = if x = b then ob else σ.o x:=fun x => rfl
  refine ⟨fun j hj => ⟨Nat.lt_of_lt_of_le hj.1 hsize,hj.2.1,fun o ho => ?_⟩,fun j hj => hblock j hj.1 (hj.2.2 b),fun o => ?_⟩
  · by_cases e:o = b
    · subst e; rw [fupd_same] at ho; exact hj.2.2 o (hF j ho)
    · rw [fupd_ne _ e] at ho; exact hj.2.2 o ho
  · by_cases e:o = b
    · subst e
      rcases hkind with ⟨cs,cs',h1,rfl⟩ | ⟨g1,e1,s1,n1,cs,g2,e2,s2,n2,cs',h1,rfl,h2⟩ | ⟨Q,Q',h1,rfl⟩
      · exact .inr (.inr (.inl ⟨cs,cs',h1,by rw [ho',if_pos rfl],rfl⟩))
      · exact .inr (.inr (.inr (.inl ⟨g1,e1,s1,n1,cs,g2,e2,s2,n2,cs',h1,by rw [ho',if_pos rfl],rfl,h2⟩)))
      · exact .inr (.inr (.inr (.inr ⟨Q,Q',h1,by rw [ho',if_pos rfl],rfl⟩)))
    · have ho:(σ.upd b ob).o o = σ.o o:=by rw [ho',if_neg e]
      cases hO:σ.o o with
      | none => exact .inl rfl
      | dead => exact .inr (.inl (by rw [ho,hO]))
      | box c => exact .inr (.inr (.inl ⟨c,c,rfl,by rw [ho,hO],rfl⟩))
      | mp Q => exact .inr (.inr (.inr (.inr ⟨Q,Q,rfl,by rw [ho,hO],rfl⟩)))
      | arr g1 e1 s1 n1 c =>
        refine .inr (.inr (.inr (.inl ⟨g1,e1,s1,n1,c,g1,e1,s1,n1,c,rfl,by rw [ho,hO],rfl,Nat.le_refl _,fun _ off hi => ⟨hi,fun k hk => ?_⟩⟩)))
        have hob:=h.ob o
        rw [hO] at hob
        obtain ⟨xs,F',_,_,hF'⟩:=hob
        have hko:k ∈ Fs o:=by rw [hF',hk]; simp
        exact World.cell?_of_block (w:=w) (w':=w') (a:=⟨k,off,none⟩) (hblock k (h.own o k hko).1 (fun hkb => h.dis o b e k hko hkb))
theorem Sim.edit (h:Sim C σ a w ι Fs) {b:Nat} {ob:AObj} {F:List Nat} (hos:w'.os = w.os) (htape:Tp w w') (hout:w'.output = w.output) (hsize:w.heap.size ≤ w'.heap.size)
    (hblock:∀ j,j < w.heap.size → j ∉ Fs b → w'.heap[j]? = w.heap[j]?) (hF:∀ y,y ∈ F → y ∈ Fs b) (hnd:F.Nodup)
    (hkind:(∃ cs cs',σ.o b = .box cs ∧ ob = .box cs') ∨ (∃ g ety esz n cs g' ety' esz' n' cs',σ.o b = .arr g ety esz n cs ∧ ob = .arr g' ety' esz' n' cs' ∧ g ≤ g' ∧
      (g = g' → ∀ off,isOw cs' off → isOw cs off ∧ ∀ k,(ι b).ownBlock = some k → w'.cell? ⟨k,off,none⟩ = w.cell? ⟨k,off,none⟩)) ∨ (∃ Q Q',σ.o b = .mp Q ∧ ob = .mp Q'))
    (hob:ObR w' (Un C w' (fupd Fs b F)) (σ.upd b ob).o ι ob (ι b) F):Sim C (σ.upd b ob) a w' ι (fupd Fs b F):=by
  have ho':∀ x,(σ.upd b ob).o x = if x = b then ob else σ.o x:=fun x => rfl
  refine h.move (O':=(σ.upd b ob).o) (X:=(· = b)) ⟨hos,htape,hout,hsize,fun j hj hX => hblock j hj (hX b rfl),fun o hX => ⟨by rw [ho',if_neg hX],rfl,fupd_ne _ hX _⟩,fun o hX => ?_,fun o hX => ?_,fun o hX => ?_,fun o hX y hy => ?_,fun o o' hX hX' hne => absurd (hX.trans hX'.symm) hne⟩
  · subst hX
    rcases hkind with ⟨cs,cs',h1,rfl⟩ | ⟨g1,e1,s1,n1,cs,g2,e2,s2,n2,cs',h1,rfl,h2⟩ | ⟨Q,Q',h1,rfl⟩
    · exact .inr (.inr (.inl ⟨cs,cs',h1,by rw [ho',if_pos rfl],rfl⟩))
    · exact .inr (.inr (.inr (.inl ⟨g1,e1,s1,n1,cs,g2,e2,s2,n2,cs',h1,by rw [ho',if_pos rfl],rfl,h2⟩)))
    · exact .inr (.inr (.inr (.inr ⟨Q,Q',h1,by rw [ho',if_pos rfl],rfl⟩)))
  · subst hX; rw [ho',if_pos rfl,fupd_same]; exact hob
  · subst hX; rw [fupd_same]; exact hnd
  · subst hX; rw [fupd_same] at hy; exact ⟨Nat.lt_of_lt_of_le (h.own o y (hF y hy)).1 hsize,.inr ⟨o,rfl,hF y hy⟩⟩
end
end Am
namespace Am
open Go
section
variable {P:Program} {T:Ty} {mv:Bool} {C:Ctx} {σ:AEnv} {a:Act} {w w':World} {ι:Nat → Value} {Fs:Nat → List Nat} {τ:Nat → AObj} {e:Eff}
variable {dst:Option Tmp} {type:TypeId} {pos:String} {after:Array Edge} {guard:Option (Nat × Bool)}
theorem Sim.editm_un (h:Sim C σ a w ι Fs) {b:Nat} {gone:List Nat} {F:List Nat} (hsize:w.heap.size ≤ w'.heap.size) (hF:∀ y,y ∈ F → y ∈ Fs b ∨ ∃ g,g ∈ gone ∧ y ∈ Fs g) (k:Nat) (hk:Un C w Fs k) :
    Un C w' (fun o => if o = b then F else if o ∈ gone then [] else Fs o) k:=by
  refine ⟨Nat.lt_of_lt_of_le hk.1 hsize,hk.2.1,fun o ho => ?_⟩
  by_cases e:o = b
  · simp only [if_pos e] at ho
    rcases hF k ho with h1 | ⟨g,_,h1⟩
    · exact hk.2.2 b h1
    · exact hk.2.2 g h1
  · by_cases e2:o ∈ gone
    · simp only [if_neg e,if_pos e2] at ho; cases ho
    · simp only [if_neg e,if_neg e2] at ho; exact hk.2.2 o ho
theorem Sim.editm (h:Sim C σ a w ι Fs) {b:Nat} {gone:List Nat} {ob:AObj} {F:List Nat} (hos:w'.os = w.os) (htape:Tp w w') (hout:w'.output = w.output) (hsize:w.heap.size ≤ w'.heap.size)
    (hblock:∀ j,j < w.heap.size → j ∉ Fs b → w'.heap[j]? = w.heap[j]?) (hF:∀ y,y ∈ F → y ∈ Fs b ∨ ∃ g,g ∈ gone ∧ y ∈ Fs g) (hnd:F.Nodup) (hbg:b ∉ gone)
    (hkind:(∃ cs cs',σ.o b = .box cs ∧ ob = .box cs') ∨ (∃ g ety esz n cs g' ety' esz' n' cs',σ.o b = .arr g ety esz n cs ∧ ob = .arr g' ety' esz' n' cs' ∧ g ≤ g' ∧
      (g = g' → ∀ off,isOw cs' off → isOw cs off ∧ ∀ k,(ι b).ownBlock = some k → w'.cell? ⟨k,off,none⟩ = w.cell? ⟨k,off,none⟩)) ∨ (∃ Q Q',σ.o b = .mp Q ∧ ob = .mp Q'))
    (hob:ObR w' (Un C w' (fun o => if o = b then F else if o ∈ gone then [] else Fs o)) (AEnv.wr ((b,ob) :: gone.map (·,.dead)) σ).o ι ob (ι b) F) :
    Sim C (AEnv.wr ((b,ob) :: gone.map (·,.dead)) σ) a w' ι (fun o => if o = b then F else if o ∈ gone then [] else Fs o):=by
  have ho':∀ x,(AEnv.wr ((b,ob) :: gone.map (·,.dead)) σ).o x = if x = b then ob else if x ∈ gone then .dead else σ.o x:=fun x => by
    show (if x = b then ob else (AEnv.wr (gone.map (·,.dead)) σ).o x) = _
    rw [wr_dead_o]
  have hM:=h.move (O':=(AEnv.wr ((b,ob) :: gone.map (·,.dead)) σ).o) (w':=w') (ι':=ι) (Fs':=fun o => if o = b then F else if o ∈ gone then [] else Fs o) (X:=fun o => o = b ∨ o ∈ gone)
    ⟨hos,htape,hout,hsize,fun j hj hX => hblock j hj (hX b (.inl rfl)),fun o hX => ?_,fun o hX => ?_,fun o hX => ?_,fun o hX => ?_,fun o hX y hy => ?_,fun o o' hX hX' hne y hy hy' => ?_⟩
  · have e1:AEnv.wr ((b,ob) :: gone.map (·,.dead)) σ = ⟨σ.t,(AEnv.wr ((b,ob) :: gone.map (·,.dead)) σ).o⟩:=AEnv.eqv (wr_t' _ _) rfl
    rw [e1]; exact hM
  · have h1:o ≠ b:=fun e => hX (.inl e)
    have h2:o ∉ gone:=fun e => hX (.inr e)
    exact ⟨by rw [ho',if_neg h1,if_neg h2],rfl,by simp only [if_neg h1,if_neg h2]⟩
  · rcases hX with rfl | hX
    · rcases hkind with ⟨cs,cs',h1,rfl⟩ | ⟨g1,e1,s1,n1,cs,g2,e2,s2,n2,cs',h1,rfl,h2⟩ | ⟨Q,Q',h1,rfl⟩
      · exact .inr (.inr (.inl ⟨cs,cs',h1,by rw [ho',if_pos rfl],rfl⟩))
      · exact .inr (.inr (.inr (.inl ⟨g1,e1,s1,n1,cs,g2,e2,s2,n2,cs',h1,by rw [ho',if_pos rfl],rfl,h2⟩)))
      · exact .inr (.inr (.inr (.inr ⟨Q,Q',h1,by rw [ho',if_pos rfl],rfl⟩)))
    · have h1:o ≠ b:=fun e => hbg (e ▸ hX)
      exact .inr (.inl (by rw [ho',if_neg h1,if_pos hX]))
  · rcases hX with rfl | hX
    · rw [ho',if_pos rfl]; simp only [if_true]; exact hob
    · have h1:o ≠ b:=fun e => hbg (e ▸ hX)
      rw [ho',if_neg h1,if_pos hX]
      simp only [if_neg h1,if_pos hX,ObR]
  · rcases hX with rfl | hX
    · simp only [if_true]; exact hnd
    · have h1:o ≠ b:=fun e => hbg (e ▸ hX)
      simp only [if_neg h1,if_pos hX]; exact List.nodup_nil
  · rcases hX with rfl | hX
    · simp only [if_true] at hy
      rcases hF y hy with h1 | ⟨g,hg,h1⟩
      · exact ⟨Nat.lt_of_lt_of_le (h.own _ y h1).1 hsize,.inr ⟨o,.inl rfl,h1⟩⟩
      · exact ⟨Nat.lt_of_lt_of_le (h.own _ y h1).1 hsize,.inr ⟨g,.inr hg,h1⟩⟩
    · have h1:o ≠ b:=fun e => hbg (e ▸ hX)
      simp only [if_neg h1,if_pos hX] at hy; cases hy
  · rcases hX with rfl | hX
    · rcases hX' with rfl | hX'
      · exact hne rfl
      · have h1:o' ≠ o:=fun e => hbg (e ▸ hX')
        simp only [if_neg h1,if_pos hX'] at hy'; cases hy'
    · have h1:o ≠ b:=fun e => hbg (e ▸ hX)
      simp only [if_neg h1,if_pos hX] at hy; cases hy
theorem snd_slice (hT:TyOK P T) (h:Sim C σ a w ι Fs) (ha:Agr σ.o τ) {t:Nat} {x:Operand} {lo hi mx:Option Operand} (he:astep T mv (ev σ) τ ⟨dst,.slice t x lo hi mx,type,pos,after,guard⟩ = some e) (hs:e.side)
    (hf:∀ k ob,(k,ob) ∈ e.oe → τ k = .none → σ.o k = .none) :
    Snd P C σ a w ⟨dst,.slice t x lo hi mx,type,pos,after,guard⟩ e:=by
  cases mx with
  | some mx => simp [astep] at he
  | none =>
  simp only [astep] at he
  split at he
  · rename_i z0 z1 z2 z3 s b hl hx
    have ht:=(hT.m hl).str rfl
    split at he
    · rename_i s1 k1 l s2 k2 hh h1 h2
      cases he
      obtain ⟨hs0,hs1,hs2,h0,h01,h12⟩:=hs
      have hv:=AR_str (ev_ug h x hx hs0)
      have hb:=sliceBounds_run (P:=P) (w:=w) false b.size b.size (Nat.le_refl _) (lo.map a.eval) (hi.map a.eval) l hh k1 k2 (bnd_run h h1 hs1) (bnd_run h h2 hs2) h0 h01 h12
      exact Snd.pure h (by simp [execOp,Instr.sliceAt,Instr.slice,run_underlying ht,hv,hb]) AR_mkstr
    · cases he
  · rename_i el z0 z1 z2 z3 s n cs hl hx
    have ht:=(hT.m hl).slice rfl
    split at he
    · rename_i i hle
      have hi':=hT.m hle
      split at he
      · rename_i s1 k1 l s2 k2 hh h1 h2
        cases he
        obtain ⟨hs0,hs1,hs2,h0,h01,h12⟩:=hs
        have hv:=ev_ug h x hx hs0
        simp only [AR,R] at hv
        obtain ⟨_,ad,cap,hv,hcap,hv2⟩:=hv
        have hb:=sliceBounds_run (P:=P) (w:=w) true n cap hcap (lo.map a.eval) (hi.map a.eval) l hh k1 k2 (bnd_run h h1 hs1) (bnd_run h h2 hs2) h0 h01 h12
        have hz:=hi'.run_sizeOf w
        refine Snd.pure h (v:=.slice (if cap = l.toNat then ad else ad.map (·.add (l.toNat * i.size))) (hh.toNat - l.toNat) (cap - l.toNat)) ?_ ?_
        · simp [execOp,Instr.sliceAt,Instr.slice,run_underlying ht,hv,hb,hz]
        · simp only [AR,R]
          refine ⟨trivial,_,_,rfl,by omega,?_⟩
          rcases hv2 with rfl | ⟨b,off,xs,rfl,hU,hm,hr⟩
          · exact .inl (by simp)
          · by_cases hc:cap = l.toNat
            · left
              have:hh.toNat - l.toNat = 0:=by omega
              simp [this]
            · right
              have hadd:(⟨b,off,none⟩:Addr).add (l.toNat * i.size) = ⟨b,off + l.toNat * i.size,none⟩:=by unfold Addr.add; split <;> simp_all
              exact ⟨b,off + l.toNat * i.size,_,by rw [if_neg hc,Option.map_some,hadd],hU,memAt_take (memAt_drop hm _) _,Rs_take (Rs_drop hr _) _⟩
      · cases he
    · cases he
  · rename_i el z0 z1 z2 z3 s b hl hx
    split at he
    · rename_i e1 k1 n cs d hh hτ hle
      split at he
      · rename_i s2 k2 m hm
        cases he
        exact snd_trunc hT h ha hl hx hτ hm hs (hf _ _ List.mem_cons_self) ⟨_,hle⟩
      · cases he
    · cases he
  · cases he
theorem snd_store (hT:TyOK P T) (h:Sim C σ a w ι Fs) (ha:Agr σ.o τ) {t:Nat} {x y:Operand} (he:astep T mv (ev σ) τ ⟨dst,.store t x y,type,pos,after,guard⟩ = some e) (hs:e.side) :
    Snd P C σ a w ⟨dst,.store t x y,type,pos,after,guard⟩ e:=by
  simp only [astep] at he
  split at he
  · rename_i i b off xs hl hx hc
    have hi:=hT.m hl
    obtain ⟨hcr,h1⟩:=cellsOf_AR (U:=Un C w Fs) h ha (ev_AR h y) hc
    split at he
    · rename_i cs hτ
      by_cases hok:¬ (xs.length = i.size ∧ off + xs.length ≤ cs.length)
      · rw [if_neg hok] at he; cases he
      have hok:=Decidable.not_not.1 hok
      rw [if_pos hok] at he
      cases he
      have hv:=ev_AR h x
      rw [hx] at hv
      obtain ⟨ho,k,hk,hv⟩:=agr_box ha hv hτ
      obtain ⟨vals,ty,hh,hm,hr,ho1,hF⟩:=box_mem h ho hk
      have hl1:=ARs_length _ _ hr
      have hl2:=ARs_length _ _ hcr
      simp only [Array.length_toList] at hl1 hl2
      have hrun:=storeAt_run (P:=P) hi (off:=off) (v:=a.eval y) hh (by rw [← hl2]; exact hok.1) (by rw [← hl1,← hl2]; exact hok.2) h1
      have hbl:∀ j,j < w.heap.size → j ∉ Fs b → (w.setRow k (splice vals.toList off (a.eval y).cells.toList).toArray).heap[j]? = w.heap[j]?:=fun j _ hj => setRow_other w k j _ (fun e => hj (by rw [hF,e]; simp))
      have hL:=h.edit_later (w':=w.setRow k (splice vals.toList off (a.eval y).cells.toList).toArray) (b:=b) (ob:=.box (splice cs off xs)) (F:=[k]) (by simp) hbl (by intro z hz; rw [hF]; exact hz) (.inl ⟨_,_,ho,rfl⟩)
      refine ⟨.skip,w.setRow k (splice vals.toList off (a.eval y).cells.toList).toArray,ι,_,undef,?_,.inr ⟨rfl,rfl⟩,
        h.edit (ob:=.box (splice cs off xs)) (F:=[k]) rfl ⟨rfl,Nat.le_refl _⟩ rfl (by simp) hbl (by intro z hz; rw [hF]; exact hz) (by simp) (.inl ⟨_,_,ho,rfl⟩)
          ⟨k,_,ty,hk,setRow_heap w k vals _ ty _ hh,?_,?_,rfl⟩,by simp only [AR]⟩
      · simp only [execOp,hv,Sem.run_bind,hrun,Result.andThen_ok,Sem.run_pure]
      · simpa using ARs_splice (ARs_later hL _ _ hr) (ARs_later hL _ _ hcr) off
      · intro z hz
        simp only [splice,List.mem_append] at hz
        rcases hz with (hz | hz) | hz
        · exact ho1 z (List.mem_of_mem_take hz)
        · exact h1 z hz
        · exact ho1 z (List.mem_of_mem_drop hz)
    · cases he
  · rename_i i b off xs hl hx hc
    have hi:=hT.m hl
    obtain ⟨hcr,h1⟩:=cellsOf_AR (U:=Un C w Fs) h ha (ev_AR h y) hc
    split at he
    · rename_i g0 el1 s1 n cs hτ
      split at he
      · rename_i ps gone hps
        by_cases hok:¬ (xs.length = i.size)
        · rw [if_neg hok] at he; cases he
        have hok:=Decidable.not_not.1 hok
        rw [if_pos hok] at he
        cases he
        obtain ⟨hfit,hgn,hbg⟩:=hs
        have hv:=ev_AR h x
        rw [hx] at hv
        obtain ⟨ho,k,hk,hv⟩:=agr_pa ha hv hτ
        obtain ⟨vs,F',hown,hm,hr,hF⟩:=arr_mem h ho hk
        obtain ⟨hpsr,hgone⟩:=toPVs_R h ha hcr hps
        have hpl:ps.length = xs.length:=by rw [Rs_length _ _ _ hpsr,ARs_length _ _ hcr]
        have hl1:=Rs_length _ _ _ hr
        have hl2:=ARs_length _ _ hcr
        simp only [Array.length_toList] at hl2
        have hob:(ι b).ownBlock = some k:=hk
        rcases hown.2 with ⟨hv0,_⟩ | ⟨g,cap,cur,hv0,hb0,hg,hnc,hcm,hcs,htake⟩
        · rw [hv0] at hob; cases hob
        rw [hv0] at hob
        cases hob
        have hvl:vs.length = n * s1:=hown.1
        have hcl:n * s1 ≤ cur.size:=by rw [hcs]; exact Nat.mul_le_mul_right _ hnc
        have hfit2:off + (a.eval y).cells.size ≤ cur.size:=by omega
        have hus:(a.eval y).cells.toList.length = ps.length:=by simp only [Array.length_toList]; omega
        have hrun:=storeAt_run (P:=P) hi (off:=off) (v:=a.eval y) hg (by omega) hfit2 h1
        have hWh:=setRow_heap w g cur (splice cur.toList off (a.eval y).cells.toList).toArray el1 (0,0) hg
        have hWo:∀ j,j ≠ g → (w.setRow g (splice cur.toList off (a.eval y).cells.toList).toArray).heap[j]? = w.heap[j]?:=fun j hj => setRow_other w g j _ hj
        have hWs:w.heap.size ≤ (w.setRow g (splice cur.toList off (a.eval y).cells.toList).toArray).heap.size:=by simp
        have h1W:(w.setRow g (splice cur.toList off (a.eval y).cells.toList).toArray).os = w.os:=rfl
        have h2W:(w.setRow g (splice cur.toList off (a.eval y).cells.toList).toArray).tape = w.tape ∧ w.drawn ≤ (w.setRow g (splice cur.toList off (a.eval y).cells.toList).toArray).drawn:=⟨rfl,Nat.le_refl _⟩
        have h3W:(w.setRow g (splice cur.toList off (a.eval y).cells.toList).toArray).output = w.output:=rfl
        generalize w.setRow g (splice cur.toList off (a.eval y).cells.toList).toArray = W at hrun hWh hWo hWs h1W h2W h3W
        obtain ⟨F1,F23,hr1,hr23,rfl⟩:=Rs_split off _ _ _ hr
        obtain ⟨F2,F3,hr2,hr3,rfl⟩:=Rs_split ps.length _ _ _ hr23
        rw [List.drop_drop,List.drop_drop] at hr3
        have hbl:∀ j,j < w.heap.size → j ∉ Fs b → W.heap[j]? = w.heap[j]?:=fun j _ hj => hWo j (fun e => hj (by rw [hF,e]; simp))
        have hold:∀ z,z ∈ (g :: (F1 ++ F3)) → z ∈ Fs b:=by
          intro z hz
          rw [hF]
          simp only [List.mem_cons,List.mem_append] at hz ⊢
          rcases hz with hz | hz | hz
          · exact .inl hz
          · exact .inr (.inl hz)
          · exact .inr (.inr (.inr hz))
        have hgm:∀ z,z ∈ gone.flatMap Fs → ∃ g,g ∈ gone ∧ z ∈ Fs g:=fun z hz => by obtain ⟨g,h2,h3⟩:=List.mem_flatMap.1 hz; exact ⟨g,h2,h3⟩
        have hFs:∀ z,z ∈ (g :: (F1 ++ (gone.flatMap Fs) ++ F3)) → z ∈ Fs b ∨ ∃ g,g ∈ gone ∧ z ∈ Fs g:=by
          intro z hz
          simp only [List.mem_cons,List.mem_append] at hz
          rcases hz with hz | (hz | hz) | hz
          · exact .inl (hold z (by simp [hz]))
          · exact .inl (hold z (by simp [hz]))
          · exact .inr (hgm z hz)
          · exact .inl (hold z (by simp [hz]))
        have hnd0:(g :: (F1 ++ F3)).Nodup:=by
          have:=h.nd b
          rw [hF] at this
          exact this.sublist (List.Sublist.cons_cons g (List.Sublist.append (List.Sublist.refl F1) (List.sublist_append_right F2 F3)))
        have hsep:∀ z,z ∈ gone.flatMap Fs → z ∉ Fs b:=fun z hz hzb => by
          obtain ⟨g',h2,h3⟩:=hgm z hz
          exact h.dis b g' (fun e => hbg (e ▸ h2)) z hzb h3
        have hnd:(g :: (F1 ++ gone.flatMap Fs ++ F3)).Nodup:=by
          rw [List.nodup_cons] at hnd0 ⊢
          obtain ⟨q1,q2⟩:=hnd0
          rw [List.nodup_append] at q2
          refine ⟨fun hz => ?_,?_⟩
          · simp only [List.mem_append] at hz q1
            rcases hz with (hz | hz) | hz
            · exact q1 (.inl hz)
            · exact hsep g hz (hold g (by simp))
            · exact q1 (.inr hz)
          · rw [List.nodup_append,List.nodup_append]
            refine ⟨⟨q2.1,gone_nodup h hgn,fun y hy c hc e => hsep c hc (hold c (by rw [← e]; simp [hy]))⟩,q2.2.1,fun y hy c hc e => ?_⟩
            rcases List.mem_append.1 hy with hy | hy
            · exact q2.2.2 y hy c hc e
            · exact hsep y hy (hold y (by rw [e]; simp [hc]))
        have hkind:g0 = (if ps.all isFree then g0 else g0 + 1) → ∀ off',isOw (splice cs off ps) off' → isOw cs off' ∧ ∀ k,(ι b).ownBlock = some k → W.cell? ⟨k,off',none⟩ = w.cell? ⟨k,off',none⟩:=by
          rintro hgg off' ⟨e2,s2,n2,c2,hc2⟩
          have hfree:ps.all isFree = true:=by
            cases hfr:ps.all isFree with
            | true => rfl
            | false => rw [hfr] at hgg; simp at hgg
          rw [splice_getElem? cs off ps hfit] at hc2
          by_cases hin:off ≤ off' ∧ off' < off + ps.length
          · rw [if_pos hin] at hc2
            have:=List.all_eq_true.1 hfree _ (List.mem_of_getElem? hc2)
            simp [isFree] at this
          · rw [if_neg hin] at hc2
            refine ⟨⟨e2,s2,n2,c2,hc2⟩,fun k2 hk2 => ?_⟩
            rw [hk] at hk2
            cases hk2
            have hh':=hWh
            simp only [World.cell?,hh',hg]
            have:=splice_getElem? cur.toList off (a.eval y).cells.toList (by simpa using hfit2) off'
            rw [if_neg (by rw [hus]; exact hin)] at this
            simpa using this
        have hU:=h.editm_un (w':=W) (b:=b) (gone:=gone) (F:=g :: (F1 ++ gone.flatMap Fs ++ F3)) hWs hFs
        have hUh:∀ j,Un C w Fs j → W.heap[j]? = w.heap[j]?:=fun j hj => hbl j hj.1 (hj.2.2 b)
        have hmem:∀ z,z ∈ F1 ++ F3 → z < w.heap.size ∧ z ≠ g:=fun z hz => by
          refine ⟨(h.own b z (hold z (List.mem_cons_of_mem _ hz))).1,fun e => ?_⟩
          rw [List.nodup_cons] at hnd0
          exact hnd0.1 (e ▸ hz)
        have hRnew:Rs W (Un C W (fun o => if o = b then g :: (F1 ++ gone.flatMap Fs ++ F3) else if o ∈ gone then [] else Fs o)) (splice cs off ps) (splice vs off (a.eval y).cells.toList) (F1 ++ gone.flatMap Fs ++ F3):=by
          have hsp:splice vs off (a.eval y).cells.toList = vs.take off ++ (a.eval y).cells.toList ++ vs.drop (off + ps.length):=by rw [splice,hus]
          rw [hsp]
          have e1:=Rs_mono hU hUh _ _ _ hr1 (fun z hz => hWo z (hmem z (by simp [hz])).2)
          have e2:=Rs_mono hU hUh _ _ _ hpsr (fun z hz => hWo z (fun e => hsep z hz (hold z (by rw [e]; simp))))
          have e3:=Rs_mono hU hUh _ _ _ hr3 (fun z hz => hWo z (hmem z (by simp [hz])).2)
          exact Rs_append _ _ _ _ _ _ (Rs_append _ _ _ _ _ _ e1 e2) e3
        refine ⟨.skip,W,ι,_,undef,?_,.inr ⟨rfl,rfl⟩,h.editm (ob:=.arr (if ps.all isFree then g0 else g0 + 1) el1 s1 n (splice cs off ps)) (F:=g :: (F1 ++ gone.flatMap Fs ++ F3)) h1W h2W h3W hWs hbl hFs hnd hbg
          (.inr (.inl ⟨_,_,_,_,_,_,_,_,_,_,ho,rfl,by split <;> omega,hkind⟩))
          ⟨_,F1 ++ gone.flatMap Fs ++ F3,⟨?_,.inr ⟨g,cap,_,hv0,hb0,hWh,hnc,hcm,?_,?_⟩⟩,hRnew,by rw [hv0]; rfl⟩,by simp only [AR]⟩
        · simp only [execOp,hv,Sem.run_bind,hrun,Result.andThen_ok,Sem.run_pure]
        · rw [splice_length _ _ _ (by rw [hus]; omega),hvl]
        · rw [List.size_toArray,splice_length _ _ _ (by simpa using hfit2)]; simpa using hcs
        · apply List.ext_getElem?
          intro j
          rw [List.getElem?_take,splice_getElem? vs off _ (by rw [hus]; omega)]
          simp only [List.toList_toArray]
          rw [splice_getElem? cur.toList off _ (by simpa using hfit2)]
          by_cases hj:j < n * s1
          · rw [if_pos hj]
            by_cases hin:off ≤ j ∧ j < off + (a.eval y).cells.toList.length
            · rw [if_pos hin,if_pos hin]
            · rw [if_neg hin,if_neg hin,← htake,List.getElem?_take,if_pos hj]
          · rw [if_neg hj,if_neg (by rw [hus]; omega),List.getElem?_eq_none (by omega)]
      · cases he
    · cases he
  · cases he
theorem Rs_bytes {U:Nat → Prop}:∀ {cs:List PV} {vs:List Value} {F:List Nat},Rs w U cs vs F → allBytes cs → ∃ ns:List Int,vs = ns.map (fun n => Value.int .u8 n) ∧ bytesOf cs = ns.map (fun n => UInt8.ofNat n.toNat)
  | [],[],_,_,_ => ⟨[],rfl,rfl⟩
  | p :: cs,v :: vs,F,h,hb => by
    simp only [Rs] at h
    obtain ⟨F1,F2,h1,h2,_⟩:=h
    unfold allBytes at hb
    split at hb
    · rename_i hcs; cases hcs
    · rename_i hcs
      cases hcs
      obtain ⟨ns,rfl,e2⟩:=Rs_bytes h2 hb.2
      simp only [R] at h1
      obtain ⟨rfl,_⟩:=h1
      exact ⟨_ :: ns,rfl,by simp [bytesOf,e2]⟩
    · cases hb
  | [],_ :: _,_,h,_ => by simp only [Rs] at h
  | _ :: _,[],_,h,_ => by simp only [Rs] at h
theorem foldl_push (ns:List Int):∀ (s:ByteArray),ns.foldl (fun r n => r.push (UInt8.ofNat n.toNat)) s = ⟨s.data ++ (ns.map (fun n => UInt8.ofNat n.toNat)).toArray⟩:=by
  induction ns with
  | nil => intro s; simp
  | cons n ns ih =>
    intro s
    rw [List.foldl_cons,ih]
    congr 1
    apply Array.ext'
    simp [ByteArray.push]
theorem snd_convert (hT:TyOK P T) (h:Sim C σ a w ι Fs) (ha:Agr σ.o τ) {s t:Nat} {x:Operand} (he:astep T mv (ev σ) τ ⟨dst,.convert s t x,type,pos,after,guard⟩ = some e) (hs:e.side) :
    Snd P C σ a w ⟨dst,.convert s t x,type,pos,after,guard⟩ e:=by
  simp only [astep] at he
  split at he
  · rename_i h1 h2 hx
    cases he
    exact snd_convert_int hT h h1 h2 hx hs
  · rename_i el z0 z1 z2 z3 y0 y1 y2 y3 sd v h1 h2 hx
    split at he
    · rename_i q0 q1 q2 q3 m cs gone h3 hrd
      cases he
      obtain ⟨hs0,hb,hlen⟩:=hs
      have e1:=(hT.m h1).slice rfl
      have e2:=(hT.m h2).str rfl
      have e3:=(hT.m h3).int rfl
      obtain ⟨news,F,⟨ad,cap,hu⟩,hmem,hR,_⟩:=readA_R h ha (ev_ug h x hx hs0) hrd
      obtain ⟨ns,rfl,hby⟩:=Rs_bytes hR hb
      have hl:=Rs_length _ _ _ hR
      have hconv:(Conv.bytesToString (.slice ad m cap)).run P w = .ok (.string ⟨(bytesOf cs).toArray⟩) w:=by
        cases ad with
        | none =>
          have hm:ns = []:=by
            rcases hmem with hm | ⟨b,off,c,hv,_⟩
            · simpa using hm
            · rw [hu] at hv; cases hv
          subst hm
          simp [Conv.bytesToString,hby]
          rfl
        | some ad =>
          have hld:(loadCells ad m).run P w = .ok (ns.map (Value.int .u8)).toArray w:=by
            have hm':m = (ns.map (fun n => Value.int .u8 n)).length:=by rw [← hl]; exact hlen.symm
            rcases hmem with hm | ⟨b,off,c,hv,hm⟩
            · rw [hm] at hm'
              simp only [List.length_nil] at hm'
              subst hm'
              have:ns = []:=by simpa using hm
              subst this
              simp [loadCells,loadCellsFrom]
            · rw [hu] at hv
              cases hv
              have:=run_loadCells_list (P:=P) w ⟨b,off,none⟩ (ns.map (fun n => Value.int .u8 n)) (fun j v hj => by rw [addr_add]; exact hm j v hj)
              rw [← hm'] at this
              exact this
          rw [run_bytesToString w ad m cap ns hld,foldl_push,hby]
          congr 3
          apply Array.ext'
          simp
      refine Snd.pure h (v:=.string ⟨(bytesOf cs).toArray⟩) ?_ AR_mkstr
      simp [execOp,Go.convert,run_underlying e1,run_underlying e2,run_underlying e3,hu,hconv]
    · cases he
  · cases he
theorem evs_raw (h:Sim C σ a w ι Fs):∀ xs:List Operand,ARs w (Un C w Fs) σ.o ι (xs.map (ev σ)) (xs.map a.eval)
  | [] => by simp [ARs]
  | x :: xs => by simp only [List.map_cons,ARs]; exact ⟨ev_AR h x,evs_raw h xs⟩
theorem snd_makeFunc (h:Sim C σ a w ι Fs) {fn:Go.Fn} {first caps:Array Operand} (he:astep T mv (ev σ) τ ⟨dst,.makeFunc fn first caps,type,pos,after,guard⟩ = some e) :
    Snd P C σ a w ⟨dst,.makeFunc fn first caps,type,pos,after,guard⟩ e:=by
  simp only [astep] at he
  unfold amake at he
  split at he
  · rename_i f hfirst
    cases he
    have hf0:first = #[]:=by cases first; simpa using hfirst
    subst hf0
    refine Snd.pure h (v:=.func (.func f) #[] (caps.map a.eval)) (by simp [execOp,Instr.makeFunc]) ?_
    simp only [AR]
    exact ⟨_,rfl,by simpa using evs_raw h caps.toList⟩
  · cases he
theorem step_sound (hT:TyOK P T) (h:Sim C σ a w ι Fs) (ha:Agr σ.o τ) {o:Oper} (he:astep T mv (ev σ) τ o = some e) (hs:e.side) (hf:∀ k ob,(k,ob) ∈ e.oe → τ k = .none → σ.o k = .none):Snd P C σ a w o e:=by
  obtain ⟨dst,op,type,pos,after,guard⟩:=o
  cases op with
  | move x => exact snd_move h he hs
  | assign x => exact snd_assign h he hs
  | pick c a b => exact snd_pick h he hs
  | alloc t => exact snd_alloc hT h he hs hf
  | box t x => exact snd_box hT h ha he hs hf
  | build t ps => exact snd_build hT h ha he
  | buildSlice t n ps => exact snd_buildSlice hT h ha he hs hf
  | load t x => exact snd_load hT h ha he hs hf
  | makeFunc fn first caps => exact snd_makeFunc h he
  | store t x y => exact snd_store hT h ha he hs
  | nilCheck x => exact snd_nilCheck h he ha
  | binOp op t x y t' => exact snd_binOp hT h he hs
  | unOp op t x => exact snd_unOp h he hs
  | convert s t x => exact snd_convert hT h ha he hs
  | slice t x lo hi mx => exact snd_slice hT h ha he hs hf
  | makeSlice t l c => exact snd_makeSlice hT h he hs hf
  | fieldAddr t x f => exact snd_fieldAddr hT h ha he hs
  | indexAddr t x ix => exact snd_indexAddr hT h ha he hs
  | index t x ix => exact snd_index hT h he hs
  | extract x i => exact snd_extract h he
  | call c =>
    obtain ⟨callee,⟨args⟩,⟨tys⟩⟩:=c
    cases callee with
    | value f => simp [astep] at he
    | invoke r m => simp [astep] at he
    | builtin b =>
      simp only [astep] at he
      cases b with
      | len =>
        rcases args with _ | ⟨x,_ | ⟨y,r⟩⟩
        · simp [abuiltin] at he
        · rcases tys with _ | ⟨t,_ | ⟨t',r⟩⟩
          · simp [abuiltin] at he
          · exact snd_len (mv:=mv) hT h ha he hs
          · simp [abuiltin] at he
        · simp [abuiltin] at he
      | max =>
        rcases args with _ | ⟨x,_ | ⟨y,_ | ⟨z,r⟩⟩⟩
        · simp [abuiltin] at he
        · simp [abuiltin] at he
        · exact snd_max (mv:=mv) (T:=T) (τ:=τ) h he hs
        · simp [abuiltin] at he
      | min =>
        rcases args with _ | ⟨x,_ | ⟨y,_ | ⟨z,r⟩⟩⟩
        · simp [abuiltin] at he
        · simp [abuiltin] at he
        · exact snd_min (mv:=mv) (T:=T) (τ:=τ) h he hs
        · simp [abuiltin] at he
      | append =>
        rcases args with _ | ⟨x,_ | ⟨y,_ | ⟨z,r⟩⟩⟩
        · simp [abuiltin] at he
        · simp [abuiltin] at he
        · rcases tys with _ | ⟨t,_ | ⟨t',_ | ⟨t'',r⟩⟩⟩
          · simp [abuiltin] at he
          · simp [abuiltin] at he
          · exact snd_append hT h ha he hs hf
          · simp [abuiltin] at he
        · simp [abuiltin] at he
      | _ => simp [abuiltin] at he
  | _ => simp [astep] at he
end
end Am
namespace Am
open Go
inductive CV where
  | any
  | v (p:PV)
  | agg (ps:List PV)
  | ptr (ps:List PV)
  | pc (ps:List PV)
  | fn (f:Nat) (caps:List CV)
  | tup (xs:List CV)
  deriving Inhabited
mutual
def CR (w:World) (U:Nat → Prop):CV → Value → List Nat → Prop
  | .any,_,F => F = []
  | .v p,v,F => R w U p v F
  | .agg ps,v,F => ∃ vs,v = .agg vs ∧ Rs w U ps vs.toList F
  | .ptr ps,v,F => ∃ b vals ty F',v = .pointer (some ⟨b,0,none⟩) ∧ w.heap[b]? = some (.cells vals ty (0,0)) ∧ (∀ x ∈ vals.toList,x.oneCell' = true) ∧ Rs w U ps vals.toList F' ∧ F = b :: F'
  | .pc ps,v,F => F = [] ∧ ∃ b o0 xs,v = .pointer (some ⟨b,o0,none⟩) ∧ U b ∧ memAt w b o0 xs ∧ Rs w U ps xs []
  | .fn f caps,v,F => F = [] ∧ ∃ xs,v = .func (.func f) #[] xs ∧ CRs w U caps xs.toList []
  | .tup xs,v,F => ∃ vs,v = .tuple vs ∧ CRs w U xs vs.toList F
def CRs (w:World) (U:Nat → Prop):List CV → List Value → List Nat → Prop
  | [],[],F => F = []
  | x :: xs,v :: vs,F => ∃ F1 F2,CR w U x v F1 ∧ CRs w U xs vs F2 ∧ F = F1 ++ F2
  | [],_ :: _,_ => False
  | _ :: _,[],_ => False
end
structure FnIn (P:Program) (f:Nat):Prop where
  ex : ∃ fn, P.funcs[f]? = some fn ∧ fn.body.isNone = false ∧ (fn.name == "runtime.NumGoroutine") = false
structure GrownF (w w':World) (F:List Nat):Prop where
  os:w'.os = w.os
  tape:Tp w w'
  output:w'.output = w.output
  size:w.heap.size ≤ w'.heap.size
  block:∀ k,k < w.heap.size → k ∉ F → w'.heap[k]? = w.heap[k]?
structure FnW (P:Program) (f:Nat) (args:List CV) (res:CV) (outs:List CV):Prop where
  fin:FnIn P f
  call:∀ (w:World) (V:Nat → Prop) (vals:List Value) (F:List Nat),CRs w V args vals F → F.Nodup → (∀ k,V k → k < w.heap.size ∧ k ∉ F) → (∀ k,k ∈ F → k < w.heap.size) →
    Calls P f vals.toArray w (fun e w' => ∃ v Fr Fo,e = .returned v ∧ GrownF w w' F ∧ CR w' (fun k => k < w'.heap.size ∧ (V k ∨ w.heap.size ≤ k ∨ k ∈ F) ∧ k ∉ Fr ++ Fo) res v Fr ∧
      CRs w' (fun k => k < w'.heap.size ∧ (V k ∨ w.heap.size ≤ k ∨ k ∈ F) ∧ k ∉ Fr ++ Fo) outs vals Fo ∧ (Fr ++ Fo).Nodup ∧ ∀ k,k ∈ Fr ++ Fo → k < w'.heap.size ∧ (w.heap.size ≤ k ∨ k ∈ F))
abbrev FnR (P:Program) (f:Nat) (args:List CV) (res:CV):Prop:=FnW P f args res (args.map fun _ => .any)
def cellView (O:Nat → AObj):AV → Option (PV × List Nat)
  | .c p => if isFree p = true then some (p,[]) else none
  | .nil => some (.im 0 [],[])
  | .arr o => match O o with
    | .arr _ _ _ n cs => some (.im n (frzs cs),[o])
    | _ => none
  | .inr o g off => match O o with
    | .arr g' _ _ _ cs => if g = g' then match cs[off]? with
      | some (.ow _ _ n c) => some (.im n (frzs c),[o])
      | _ => none
      else none
    | _ => none
  | _ => none
def cellsView (O:Nat → AObj):List AV → Option (List PV × List Nat)
  | [] => some ([],[])
  | x :: xs => match cellView O x,cellsView O xs with
    | some (p,b),some (ps,b') => some (p :: ps,b ++ b')
    | _,_ => none
def argView0 (O:Nat → AObj):AV → Option (CV × List Nat)
  | .agg cs => match cellsView O cs with
    | some (ps,b) => some (.agg ps,b)
    | none => none
  | .box o 0 => match O o with
    | .box cs => match cellsView O cs with
      | some (ps,b) => some (.pc ps,o :: b)
      | none => none
    | _ => none
  | .pc cs off => some (.pc (cs.drop off),[])
  | x => match cellView O x with
    | some (p,b) => some (.v p,b)
    | none => none
def argsView0 (O:Nat → AObj):List AV → Option (List CV × List Nat)
  | [] => some ([],[])
  | x :: xs => match argView0 O x,argsView0 O xs with
    | some (p,b),some (ps,b') => some (p :: ps,b ++ b')
    | _,_ => none
def argView (O:Nat → AObj):AV → Option (CV × List Nat)
  | .fn f caps => match argsView0 O caps with
    | some (cs,b) => some (.fn f cs,b)
    | none => none
  | x => argView0 O x
def argsView (O:Nat → AObj):List AV → Option (List CV × List Nat)
  | [] => some ([],[])
  | x :: xs => match argView O x,argsView O xs with
    | some (p,b),some (ps,b') => some (p :: ps,b ++ b')
    | _,_ => none
def impCell (own:Bool) (k:Nat):PV → AV × List (Nat × AObj)
  | .ow e s n cs => if own then (.arr k,[(k,.arr 0 e s n cs)]) else (.c (.im n (frzs cs)),[])
  | p => (.c p,[])
def impCells (own:Bool):Nat → List PV → List AV × List (Nat × AObj)
  | _,[] => ([],[])
  | k,p :: ps => ((impCell own k p).1 :: (impCells own (k + 1) ps).1,(impCell own k p).2 ++ (impCells own (k + 1) ps).2)
def impOne (own:Bool) (k:Nat):CV → AV × List (Nat × AObj)
  | .v p => impCell own k p
  | .agg ps => (.agg (impCells own k ps).1,(impCells own k ps).2)
  | _ => (.any,[])
def impTup (own:Bool) (st:Nat):Nat → List CV → List AV × List (Nat × AObj)
  | _,[] => ([],[])
  | k,x :: xs => ((impOne own k x).1 :: (impTup own st (k + st) xs).1,(impOne own k x).2 ++ (impTup own st (k + st) xs).2)
def tupStep:List CV → Nat
  | _ :: _ :: _ :: _ :: _ => 15
  | _ => 20
def imp (own:Bool) (k:Nat):CV → AV × List (Nat × AObj)
  | .tup xs => (.tup (impTup own (tupStep xs) k xs).1,(impTup own (tupStep xs) k xs).2)
  | .ptr ps => (.box k 0,[(k,.box (ps.map .c))])
  | x => impOne own k x
mutual
def noIm:PV → Prop
  | .im _ cs => cs = []
  | .ow _ _ _ cs => noIms cs
  | _ => True
def noIms:List PV → Prop
  | [] => True
  | p :: ps => noIm p ∧ noIms ps
end
def noImC1:CV → Prop
  | .v p => noIm p
  | .agg ps => noIms ps
  | .ptr ps => noIms ps
  | .any => True
  | _ => False
def noImCs:List CV → Prop
  | [] => True
  | x :: xs => noImC1 x ∧ noImCs xs
def noImC:CV → Prop
  | .tup xs => noImCs xs
  | x => noImC1 x
mutual
theorem R_noIm {w:World} {U U':Nat → Prop}:∀ (p:PV) (v:Value) (F:List Nat),R w U p v F → noIm p → R w U' p v F
  | .int k n,v,F,h,_ => by simpa only [R] using h
  | .bool b,v,F,h,_ => by simpa only [R] using h
  | .str s,v,F,h,_ => by simpa only [R] using h
  | .im n cs,v,F,h,hn => by
    simp only [R,noIm] at h hn ⊢
    obtain ⟨hF,a,cap,hv,hc,_⟩:=h
    exact ⟨hF,a,cap,hv,hc,.inl hn⟩
  | .ow e s n cs,v,F,h,hn => by
    simp only [R,noIm] at h hn ⊢
    obtain ⟨xs,F',ho,hr,hF⟩:=h
    exact ⟨xs,F',ho,Rs_noIm cs xs F' hr hn,hF⟩
  | .any,v,F,h,_ => by simpa only [R] using h
  | .tk u,v,F,h,_ => by simpa only [R] using h
theorem Rs_noIm {w:World} {U U':Nat → Prop}:∀ (ps:List PV) (vs:List Value) (F:List Nat),Rs w U ps vs F → noIms ps → Rs w U' ps vs F
  | [],[],F,h,_ => by simpa only [Rs] using h
  | p :: ps,v :: vs,F,h,hn => by
    simp only [Rs,noIms] at h hn ⊢
    obtain ⟨F1,F2,h1,h2,hF⟩:=h
    exact ⟨F1,F2,R_noIm p v F1 h1 hn.1,Rs_noIm ps vs F2 h2 hn.2,hF⟩
  | [],_ :: _,F,h,_ => by simp only [Rs] at h
  | _ :: _,[],F,h,_ => by simp only [Rs] at h
end
theorem CR1_noIm {w:World} {U U':Nat → Prop} {c:CV} {v:Value} {F:List Nat} (hs:noImC1 c) (h:CR w U c v F):CR w U' c v F:=by
  cases c with
  | v p => simp only [CR,noImC1] at h hs ⊢; exact R_noIm p v F h hs
  | agg ps => simp only [CR,noImC1] at h hs ⊢; obtain ⟨us,e,hr⟩:=h; exact ⟨us,e,Rs_noIm ps _ F hr hs⟩
  | ptr ps => simp only [CR,noImC1] at h hs ⊢; obtain ⟨b,us,ty,F',e1,e2,e3,hr,e4⟩:=h; exact ⟨b,us,ty,F',e1,e2,e3,Rs_noIm ps _ F' hr hs,e4⟩
  | any => simpa only [CR] using h
  | _ => simp [noImC1] at hs
theorem CRs_noIm {w:World} {U U':Nat → Prop}:∀ {cs:List CV} {vs:List Value} {F:List Nat},noImCs cs → CRs w U cs vs F → CRs w U' cs vs F
  | [],[],F,_,h => by simpa only [CRs] using h
  | c :: cs,v :: vs,F,hn,h => by
    simp only [CRs,noImCs] at h hn ⊢
    obtain ⟨F1,F2,h1,h2,hF⟩:=h
    exact ⟨F1,F2,CR1_noIm hn.1 h1,CRs_noIm hn.2 h2,hF⟩
  | [],_ :: _,F,_,h => by simp only [CRs] at h
  | _ :: _,[],F,_,h => by simp only [CRs] at h
section
variable {P:Program} {T:Ty} {C:Ctx} {σ:AEnv} {a:Act} {w w':World} {ι:Nat → Value} {Fs:Nat → List Nat} {τ:Nat → AObj}
def Vw (C:Ctx) (w:World) (Fs:Nat → List Nat) (vw:List Nat) (k:Nat):Prop:=Un C w Fs k ∨ (k < w.heap.size ∧ ∃ o,o ∈ vw ∧ k ∈ Fs o)
theorem Vw_un {v:List Nat} {k:Nat} (h:Un C w Fs k):Vw C w Fs v k:=.inl h
theorem cellView_R (h:Sim C σ a w ι Fs) (ha:Agr σ.o τ) {x:AV} {v:Value} {p:PV} {b:List Nat} (hx:AR w (Un C w Fs) σ.o ι x v) (hc:cellView τ x = some (p,b)) (b':List Nat) (hb:∀ o,o ∈ b → o ∈ b'):R w (Vw C w Fs b') p v []:=by
  unfold cellView at hc
  split at hc
  · split at hc
    · cases hc
      exact R_mono (fun k hk => Vw_un hk) (fun k _ => rfl) _ _ _ (AR_c.1 hx) (by simp)
    · cases hc
  · cases hc
    simp only [AR] at hx
    subst hx
    simp [R]
  · rename_i o
    split at hc
    · rename_i g1 e1 s1 n1 cs hτ
      cases hc
      obtain ⟨ho,hv⟩:=agr_arr ha hx hτ
      have hob:=h.ob o
      rw [ho] at hob
      obtain ⟨xs,F',hown,hr,hF⟩:=hob
      have h2:R w (Un C w Fs) (.ow e1 s1 n1 cs) (ι o) (Fs o):=by simp only [R]; exact ⟨xs,F',hown,hr,hF⟩
      subst hv
      have:=R_frz (U:=Un C w Fs) (U':=Vw C w Fs b') (fun k hk => Vw_un hk) _ _ _ h2 (fun k hk => .inr ⟨(h.own o k hk).1,o,hb o (by simp),hk⟩)
      simpa only [frz] using this
    · cases hc
  · rename_i o gq off
    split at hc
    · rename_i g1 e1 s1 n1 cs hτ
      by_cases hgg:¬ gq = g1
      · rw [if_neg hgg] at hc; cases hc
      have hgg:=Decidable.not_not.1 hgg
      rw [if_pos hgg] at hc
      split at hc
      · rename_i e2 s2 n2 c2 hcs
        cases hc
        obtain ⟨ho,hv⟩:=agr_inr ha hx hτ
        obtain ⟨k,hk,hcell⟩:=hv hgg ⟨_,_,_,_,hcs⟩
        obtain ⟨xs,F',hown,hm,hr,hF⟩:=arr_mem h ho hk
        obtain ⟨u,F1,hu,hur,hsub⟩:=Rs_get hr hcs
        have:=hm off u hu
        rw [Nat.zero_add,hcell] at this
        cases this
        have:=R_frz (U:=Un C w Fs) (U':=Vw C w Fs b') (fun k hk => Vw_un hk) _ _ _ hur (fun k hk => by
          have:k ∈ Fs o:=by rw [hF]; exact List.mem_cons_of_mem _ (hsub k hk)
          exact .inr ⟨(h.own o k this).1,o,hb o (by simp),this⟩)
        simpa only [frz] using this
      · cases hc
    · cases hc
  · cases hc
theorem cellsView_R (h:Sim C σ a w ι Fs) (ha:Agr σ.o τ):∀ {xs:List AV} {vs:List Value} {ps:List PV} {b:List Nat},ARs w (Un C w Fs) σ.o ι xs vs → cellsView τ xs = some (ps,b) → ∀ b':List Nat,(∀ o,o ∈ b → o ∈ b') → Rs w (Vw C w Fs b') ps vs []
  | [],[],ps,b,_,hc,b',_ => by simp [cellsView] at hc; rw [hc.1]; simp [Rs]
  | x :: xs,v :: vs,ps,b,hx,hc,b',hb => by
    simp only [ARs] at hx
    simp only [cellsView] at hc
    split at hc
    · rename_i p b1 ps' b2 h1 h2
      cases hc
      simp only [Rs]
      exact ⟨[],[],cellView_R h ha hx.1 h1 b' (fun o e => hb o (by simp [e])),cellsView_R h ha hx.2 h2 b' (fun o e => hb o (by simp [e])),rfl⟩
    · cases hc
  | [],_ :: _,_,_,hx,_,_,_ => by simp only [ARs] at hx
  | _ :: _,[],_,_,hx,_,_,_ => by simp only [ARs] at hx
theorem argView0_R (h:Sim C σ a w ι Fs) (ha:Agr σ.o τ) {x:AV} {v:Value} {p:CV} {b:List Nat} (hx:AR w (Un C w Fs) σ.o ι x v) (hc:argView0 τ x = some (p,b)) (b':List Nat) (hb:∀ o,o ∈ b → o ∈ b'):CR w (Vw C w Fs b') p v []:=by
  unfold argView0 at hc
  split at hc
  · split at hc
    · rename_i cs _ ps b1 h1
      cases hc
      simp only [AR] at hx
      obtain ⟨vs,rfl,hs⟩:=hx
      simp only [CR]
      exact ⟨vs,rfl,cellsView_R h ha hs h1 b' hb⟩
    · cases hc
  · rename_i o
    split at hc
    · rename_i cs hτ
      split at hc
      · rename_i ps b1 h1
        cases hc
        obtain ⟨ho,k,hk,hv⟩:=agr_box ha hx hτ
        obtain ⟨vals,ty,hh,hm,hr,_,hF⟩:=box_mem h ho hk
        simp only [CR]
        exact ⟨trivial,k,0,vals.toList,hv,.inr ⟨(h.own o k (by rw [hF]; simp)).1,o,hb o (by simp),by rw [hF]; simp⟩,hm,cellsView_R h ha hr h1 b' (fun o' e => hb o' (by simp [e]))⟩
      · cases hc
    · cases hc
  · rename_i cs off
    cases hc
    simp only [AR] at hx
    obtain ⟨b,o0,xs,hv,hU,hm,hr⟩:=hx
    simp only [CR]
    exact ⟨trivial,b,o0 + off,xs.drop off,hv,Vw_un hU,memAt_drop hm off,Rs_mono (fun k hk => Vw_un hk) (fun _ _ => rfl) _ _ _ (Rs_drop hr off) (by simp)⟩
  · split at hc
    · rename_i p1 b1 h1
      cases hc
      simp only [CR]
      exact cellView_R h ha hx h1 b' hb
    · cases hc
theorem argsView0_R (h:Sim C σ a w ι Fs) (ha:Agr σ.o τ):∀ {xs:List AV} {vs:List Value} {ps:List CV} {b:List Nat},ARs w (Un C w Fs) σ.o ι xs vs → argsView0 τ xs = some (ps,b) → ∀ b':List Nat,(∀ o,o ∈ b → o ∈ b') → CRs w (Vw C w Fs b') ps vs []
  | [],[],ps,b,_,hc,b',_ => by simp [argsView0] at hc; rw [hc.1]; simp [CRs]
  | x :: xs,v :: vs,ps,b,hx,hc,b',hb => by
    simp only [ARs] at hx
    simp only [argsView0] at hc
    split at hc
    · rename_i p b1 ps' b2 h1 h2
      cases hc
      simp only [CRs]
      exact ⟨[],[],argView0_R h ha hx.1 h1 b' (fun o e => hb o (by simp [e])),argsView0_R h ha hx.2 h2 b' (fun o e => hb o (by simp [e])),rfl⟩
    · cases hc
  | [],_ :: _,_,_,hx,_,_,_ => by simp only [ARs] at hx
  | _ :: _,[],_,_,hx,_,_,_ => by simp only [ARs] at hx
theorem argView_R (h:Sim C σ a w ι Fs) (ha:Agr σ.o τ) {x:AV} {v:Value} {p:CV} {b:List Nat} (hx:AR w (Un C w Fs) σ.o ι x v) (hc:argView τ x = some (p,b)) (b':List Nat) (hb:∀ o,o ∈ b → o ∈ b'):CR w (Vw C w Fs b') p v []:=by
  unfold argView at hc
  split at hc
  · split at hc
    · rename_i f caps _ cs b1 h1
      cases hc
      simp only [AR] at hx
      obtain ⟨xs,rfl,hs⟩:=hx
      simp only [CR]
      exact ⟨trivial,xs,rfl,argsView0_R h ha hs h1 b' hb⟩
    · cases hc
  · exact argView0_R h ha hx hc b' hb
end
end Am
namespace Am
open Go
theorem wr_append (r1 r2:List (Nat × AObj)) (σ:AEnv):AEnv.wr (r1 ++ r2) σ = AEnv.wr r1 (AEnv.wr r2 σ):=by
  induction r1 with
  | nil => rfl
  | cons x r1 ih => obtain ⟨k,ob⟩:=x; simp only [List.cons_append,AEnv.wr,ih]
theorem wr_t (r:List (Nat × AObj)) (σ:AEnv):(AEnv.wr r σ).t = σ.t:=wr_t' r σ
theorem wr_o_other {r:List (Nat × AObj)} {σ:AEnv} {x:Nat} (h:∀ k ob,(k,ob) ∈ r → x ≠ k):(AEnv.wr r σ).o x = σ.o x:=wr_o_other' h
section
variable {P:Program} {T:Ty} {C:Ctx} {σ:AEnv} {a:Act} {w w':World} {ι:Nat → Value} {Fs:Nat → List Nat} {τ:Nat → AObj}
structure Came (C:Ctx) (σ:AEnv) (a:Act) (w:World) (ι:Nat → Value) (Fs:Nat → List Nat) (g:Nat) (Fp:List Nat) (oe:List (Nat × AObj)) (ι':Nat → Value) (Fs':Nat → List Nat):Prop where
  sim:Sim C (AEnv.wr oe σ) a w ι' Fs'
  ghost:∀ b,b ∈ Fs' g ↔ b ∈ Fs g ∧ b ∉ Fp
  later:Later w w (Un C w Fs) (Un C w Fs') σ.o (AEnv.wr oe σ).o ι ι'
theorem Later.refl (h:Sim C σ a w ι Fs):Later w w (Un C w Fs) (Un C w Fs) σ.o σ.o ι ι :=
  ⟨fun k hk => hk,fun k _ => rfl,fun o => by
    cases hO:σ.o o with
    | none => exact .inl rfl
    | dead => exact .inr (.inl rfl)
    | box c => exact .inr (.inr (.inl ⟨c,c,rfl,rfl,rfl⟩))
    | mp Q => exact .inr (.inr (.inr (.inr ⟨Q,Q,rfl,rfl,rfl⟩)))
    | arr g1 e1 s1 n1 c => exact .inr (.inr (.inr (.inl ⟨g1,e1,s1,n1,c,g1,e1,s1,n1,c,rfl,rfl,rfl,Nat.le_refl _,fun _ off hi => ⟨hi,fun _ _ => rfl⟩⟩)))⟩
theorem Later.trans {w1 w2 w3:World} {U1 U2 U3:Nat → Prop} {O1 O2 O3:Nat → AObj} {ι1 ι2 ι3:Nat → Value} (h:Later w1 w2 U1 U2 O1 O2 ι1 ι2) (h':Later w2 w3 U2 U3 O2 O3 ι2 ι3)
    (hd:∀ o,O2 o = .dead → O3 o = .dead):Later w1 w3 U1 U3 O1 O3 ι1 ι3 :=
  ⟨fun k hk => h'.u k (h.u k hk),fun k hk => (h'.heap k (h.u k hk)).trans (h.heap k hk),fun o => by
    rcases h.name o with h1 | h1 | ⟨cs,cs',h1,h2,h3⟩ | ⟨y1,e1,s1,n1,c1,y2,e2,s2,n2,c2,h1,h2,h3,h5,h4⟩ | ⟨Q,Q',h1,h2,h3⟩
    · exact .inl h1
    · exact .inr (.inl (hd o h1))
    · rcases h'.name o with g1 | g1 | ⟨ds,ds',g1,g2,g3⟩ | ⟨y3,e3,s3,n3,c3,y4,e4,s4,n4,c4,g1,g2,g3,g5,g4⟩ | ⟨R,R',g1,g2,g3⟩
      · rw [h2] at g1; cases g1
      · exact .inr (.inl g1)
      · exact .inr (.inr (.inl ⟨cs,ds',h1,g2,g3.trans h3⟩))
      · rw [h2] at g1; cases g1
      · rw [h2] at g1; cases g1
    · rcases h'.name o with g1 | g1 | ⟨ds,ds',g1,g2,g3⟩ | ⟨y3,e3,s3,n3,c3,y4,e4,s4,n4,c4,g1,g2,g3,g5,g4⟩ | ⟨R,R',g1,g2,g3⟩
      · rw [h2] at g1; cases g1
      · exact .inr (.inl g1)
      · rw [h2] at g1; cases g1
      · rw [h2] at g1
        cases g1
        exact .inr (.inr (.inr (.inl ⟨y1,e1,s1,n1,c1,y4,e4,s4,n4,c4,h1,g2,g3.trans h3,Nat.le_trans h5 g5,fun hy off hi => by
          have hy1:y1 = y2:=Nat.le_antisymm h5 (hy ▸ g5)
          obtain ⟨i1,i2⟩:=g4 (hy1 ▸ hy) off hi
          obtain ⟨j1,j2⟩:=h4 hy1 off i1
          exact ⟨j1,fun b hb => (i2 b (by rw [h3]; exact hb)).trans (j2 b hb)⟩⟩)))
      · rw [h2] at g1; cases g1
    · rcases h'.name o with g1 | g1 | ⟨ds,ds',g1,g2,g3⟩ | ⟨y3,e3,s3,n3,c3,y4,e4,s4,n4,c4,g1,g2,g3,g5,g4⟩ | ⟨R,R',g1,g2,g3⟩
      · rw [h2] at g1; cases g1
      · exact .inr (.inl g1)
      · rw [h2] at g1; cases g1
      · rw [h2] at g1; cases g1
      · exact .inr (.inr (.inr (.inr ⟨Q,R',h1,g2,g3.trans h3⟩)))⟩
theorem Sim.take (h:Sim C σ a w ι Fs) {g k:Nat} (hg:σ.o g = .none) (hk:σ.o k = .none) (hkg:k ≠ g) {Fp:List Nat} (hsub:∀ b,b ∈ Fp → b ∈ Fs g) (hnd:Fp.Nodup)
    {e s n:Nat} {cs:List PV} {v:Value} (hR:R w (Un C w Fs) (.ow e s n cs) v Fp) :
    Came C σ a w ι Fs g Fp [(k,.arr 0 e s n cs)] (fupd ι k v) (fupd (fupd Fs g ((Fs g).filter fun b => b ∉ Fp)) k Fp):=by
  have hFs:∀ o,o ≠ k → o ≠ g → fupd (fupd Fs g ((Fs g).filter fun b => b ∉ Fp)) k Fp o = Fs o:=fun o h1 h2 => by rw [fupd_ne _ h1,fupd_ne _ h2]
  have hFk:fupd (fupd Fs g ((Fs g).filter fun b => b ∉ Fp)) k Fp k = Fp:=fupd_same _ _ _
  have hFg:fupd (fupd Fs g ((Fs g).filter fun b => b ∉ Fp)) k Fp g = (Fs g).filter fun b => b ∉ Fp:=by rw [fupd_ne _ (Ne.symm hkg),fupd_same]
  have hin:∀ o b,b ∈ fupd (fupd Fs g ((Fs g).filter fun b => b ∉ Fp)) k Fp o → b ∈ Fs o ∨ b ∈ Fs g:=fun o b hb => by
    by_cases h1:o = k
    · subst h1; rw [hFk] at hb; exact .inr (hsub b hb)
    · by_cases h2:o = g
      · subst h2; rw [hFg] at hb; exact .inl ((List.mem_filter.1 hb).1)
      · rw [hFs o h1 h2] at hb; exact .inl hb
  have hU:∀ j,Un C w Fs j → Un C w (fupd (fupd Fs g ((Fs g).filter fun b => b ∉ Fp)) k Fp) j:=fun j hj =>
    ⟨hj.1,hj.2.1,fun o ho => by
      rcases hin o j ho with h1 | h1
      · exact hj.2.2 o h1
      · exact hj.2.2 g h1⟩
  have hO:∀ x,(AEnv.wr [(k,.arr 0 e s n cs)] σ).o x = if x = k then .arr 0 e s n cs else σ.o x:=fun x => rfl
  have M:Move C σ.o (AEnv.wr [(k,.arr 0 e s n cs)] σ).o w w ι (fupd ι k v) Fs (fupd (fupd Fs g ((Fs g).filter fun b => b ∉ Fp)) k Fp) (fun o => o = k ∨ o = g):=by
    refine ⟨rfl,Tp.refl _,rfl,Nat.le_refl _,fun _ _ _ => rfl,fun o hX => ?_,fun o hX => ?_,fun o hX => ?_,fun o hX => ?_,fun o hX b hb => ?_,fun o o' hX hX' hne b hb hb' => ?_⟩
    · have h1:o ≠ k:=fun e => hX (.inl e)
      have h2:o ≠ g:=fun e => hX (.inr e)
      exact ⟨by rw [hO,if_neg h1],fupd_ne _ h1 _,hFs o h1 h2⟩
    · rcases hX with rfl | rfl
      · exact .inl hk
      · exact .inl hg
    · rcases hX with rfl | rfl
      · rw [hO,if_pos rfl,fupd_same,hFk]
        simp only [R] at hR
        obtain ⟨xs,F',ho,hr,hF⟩:=hR
        exact ⟨xs,F',ho,Rs_mono hU (fun _ _ => rfl) _ _ _ hr (fun _ _ => rfl),hF⟩
      · rw [hO,if_neg (Ne.symm hkg),hg]; exact trivial
    · rcases hX with rfl | rfl
      · rw [hFk]; exact hnd
      · rw [hFg]; exact (h.nd o).sublist List.filter_sublist
    · rcases hX with rfl | rfl
      · rw [hFk] at hb
        exact ⟨(h.own g b (hsub b hb)).1,.inr ⟨g,.inr rfl,hsub b hb⟩⟩
      · rw [hFg] at hb
        have:=(List.mem_filter.1 hb).1
        exact ⟨(h.own o b this).1,.inr ⟨o,.inr rfl,this⟩⟩
    · rcases hX with rfl | rfl
      · rcases hX' with rfl | rfl
        · exact hne rfl
        · rw [hFk] at hb; rw [hFg] at hb'
          have:=(List.mem_filter.1 hb').2
          simp at this
          exact this hb
      · rcases hX' with rfl | rfl
        · rw [hFk] at hb'; rw [hFg] at hb
          have:=(List.mem_filter.1 hb).2
          simp at this
          exact this hb'
        · exact hne rfl
  have e:AEnv.wr [(k,.arr 0 e s n cs)] σ = ⟨σ.t,(AEnv.wr [(k,.arr 0 e s n cs)] σ).o⟩:=rfl
  refine ⟨by rw [e]; exact h.move M,fun b => ?_,h.later M⟩
  rw [hFg,List.mem_filter]
  simp
theorem Sim.takeOb (h:Sim C σ a w ι Fs) {g k:Nat} (hg:σ.o g = .none) (hk:σ.o k = .none) (hkg:k ≠ g) {Fp:List Nat} (hsub:∀ b,b ∈ Fp → b ∈ Fs g) (hnd:Fp.Nodup)
    {ob:AObj} {v:Value} (hR:∀ (U':Nat → Prop) (O':Nat → AObj) (ι':Nat → Value),(∀ j,Un C w Fs j → U' j) → ObR w U' O' ι' ob v Fp) :
    Came C σ a w ι Fs g Fp [(k,ob)] (fupd ι k v) (fupd (fupd Fs g ((Fs g).filter fun b => b ∉ Fp)) k Fp):=by
  have hFs:∀ o,o ≠ k → o ≠ g → fupd (fupd Fs g ((Fs g).filter fun b => b ∉ Fp)) k Fp o = Fs o:=fun o h1 h2 => by rw [fupd_ne _ h1,fupd_ne _ h2]
  have hFk:fupd (fupd Fs g ((Fs g).filter fun b => b ∉ Fp)) k Fp k = Fp:=fupd_same _ _ _
  have hFg:fupd (fupd Fs g ((Fs g).filter fun b => b ∉ Fp)) k Fp g = (Fs g).filter fun b => b ∉ Fp:=by rw [fupd_ne _ (Ne.symm hkg),fupd_same]
  have hin:∀ o b,b ∈ fupd (fupd Fs g ((Fs g).filter fun b => b ∉ Fp)) k Fp o → b ∈ Fs o ∨ b ∈ Fs g:=fun o b hb => by
    by_cases h1:o = k
    · subst h1; rw [hFk] at hb; exact .inr (hsub b hb)
    · by_cases h2:o = g
      · subst h2; rw [hFg] at hb; exact .inl ((List.mem_filter.1 hb).1)
      · rw [hFs o h1 h2] at hb; exact .inl hb
  have hU:∀ j,Un C w Fs j → Un C w (fupd (fupd Fs g ((Fs g).filter fun b => b ∉ Fp)) k Fp) j:=fun j hj =>
    ⟨hj.1,hj.2.1,fun o ho => by
      rcases hin o j ho with h1 | h1
      · exact hj.2.2 o h1
      · exact hj.2.2 g h1⟩
  have hO:∀ x,(AEnv.wr [(k,ob)] σ).o x = if x = k then ob else σ.o x:=fun x => rfl
  have M:Move C σ.o (AEnv.wr [(k,ob)] σ).o w w ι (fupd ι k v) Fs (fupd (fupd Fs g ((Fs g).filter fun b => b ∉ Fp)) k Fp) (fun o => o = k ∨ o = g):=by
    refine ⟨rfl,Tp.refl _,rfl,Nat.le_refl _,fun _ _ _ => rfl,fun o hX => ?_,fun o hX => ?_,fun o hX => ?_,fun o hX => ?_,fun o hX b hb => ?_,fun o o' hX hX' hne b hb hb' => ?_⟩
    · have h1:o ≠ k:=fun e => hX (.inl e)
      have h2:o ≠ g:=fun e => hX (.inr e)
      exact ⟨by rw [hO,if_neg h1],fupd_ne _ h1 _,hFs o h1 h2⟩
    · rcases hX with rfl | rfl
      · exact .inl hk
      · exact .inl hg
    · rcases hX with rfl | rfl
      · rw [hO,if_pos rfl,fupd_same,hFk]
        exact hR _ _ _ hU
      · rw [hO,if_neg (Ne.symm hkg),hg]; exact trivial
    · rcases hX with rfl | rfl
      · rw [hFk]; exact hnd
      · rw [hFg]; exact (h.nd o).sublist List.filter_sublist
    · rcases hX with rfl | rfl
      · rw [hFk] at hb
        exact ⟨(h.own g b (hsub b hb)).1,.inr ⟨g,.inr rfl,hsub b hb⟩⟩
      · rw [hFg] at hb
        have:=(List.mem_filter.1 hb).1
        exact ⟨(h.own o b this).1,.inr ⟨o,.inr rfl,this⟩⟩
    · rcases hX with rfl | rfl
      · rcases hX' with rfl | rfl
        · exact hne rfl
        · rw [hFk] at hb; rw [hFg] at hb'
          have:=(List.mem_filter.1 hb').2
          simp at this
          exact this hb
      · rcases hX' with rfl | rfl
        · rw [hFk] at hb'; rw [hFg] at hb
          have:=(List.mem_filter.1 hb).2
          simp at this
          exact this hb'
        · exact hne rfl
  have e:AEnv.wr [(k,ob)] σ = ⟨σ.t,(AEnv.wr [(k,ob)] σ).o⟩:=rfl
  refine ⟨by rw [e]; exact h.move M,fun b => ?_,h.later M⟩
  rw [hFg,List.mem_filter]
  simp
theorem Sim.letgo (h:Sim C σ a w ι Fs) {g:Nat} (hg:σ.o g = .none) (Fp:List Nat) :
    Came C σ a w ι Fs g Fp [] ι (fupd Fs g ((Fs g).filter fun b => b ∉ Fp)):=by
  have M:Move C σ.o σ.o w w ι ι Fs (fupd Fs g ((Fs g).filter fun b => b ∉ Fp)) (· = g):=by
    refine ⟨rfl,Tp.refl _,rfl,Nat.le_refl _,fun _ _ _ => rfl,fun o hX => ⟨rfl,rfl,fupd_ne _ hX _⟩,fun o hX => .inl (hX ▸ hg),fun o hX => ?_,fun o hX => ?_,fun o hX b hb => ?_,fun o o' hX hX' hne => absurd (hX.trans hX'.symm) hne⟩
    · subst hX; rw [hg]; exact trivial
    · subst hX; rw [fupd_same]; exact (h.nd o).sublist List.filter_sublist
    · subst hX; rw [fupd_same] at hb
      have:=(List.mem_filter.1 hb).1
      exact ⟨(h.own o b this).1,.inr ⟨o,rfl,this⟩⟩
  refine ⟨h.move M,fun b => ?_,h.later M⟩
  rw [fupd_same,List.mem_filter]
  simp
theorem Came.un {g:Nat} {Fp:List Nat} {oe:List (Nat × AObj)} {ι':Nat → Value} {Fs':Nat → List Nat} (h:Came C σ a w ι Fs g Fp oe ι' Fs') {k:Nat} (hk:Un C w Fs k):Un C w Fs' k:=h.later.u k hk
theorem impCell_came (h:Sim C σ a w ι Fs) {g k:Nat} (hg:σ.o g = .none) {own:Bool} {p:PV} (hk:∀ x ob,(x,ob) ∈ (impCell own k p).2 → σ.o x = .none) (hkg:k ≠ g) {v:Value} {Fp:List Nat} (hR:R w (Un C w Fs) p v Fp) (hsub:∀ b,b ∈ Fp → b ∈ Fs g) (hnd:Fp.Nodup) :
    ∃ ι' Fs',Came C σ a w ι Fs g Fp (impCell own k p).2 ι' Fs' ∧ AR w (Un C w Fs') (AEnv.wr (impCell own k p).2 σ).o ι' (impCell own k p).1 v:=by
  by_cases hp:isFree p = true
  · have:=R_free hR hp
    subst this
    have he:impCell own k p = (.c p,[]):=by cases p <;> first | rfl | simp [isFree] at hp
    rw [he]
    exact ⟨ι,Fs,⟨h,by simp,Later.refl h⟩,AR_c.2 hR⟩
  · cases p with
    | ow e s n cs =>
      cases own with
      | true =>
        simp only [impCell,if_true]
        refine ⟨_,_,h.take hg (hk k (.arr 0 e s n cs) (by simp [impCell])) hkg hsub hnd hR,?_⟩
        simp only [AR,AEnv.wr,AEnv.upd,if_true,fupd_same]
      | false =>
        simp only [impCell,Bool.false_eq_true,if_false]
        have hc:=h.letgo hg Fp
        refine ⟨_,_,hc,AR_c.2 ?_⟩
        have hfz:=R_frz (U:=Un C w Fs) (U':=Un C w (fupd Fs g ((Fs g).filter fun b => b ∉ Fp))) (fun k hk => hc.un hk) _ _ _ hR (fun b hb => by
          have hbg:=hsub b hb
          refine ⟨(h.own g b hbg).1,?_,fun o ho => ?_⟩
          · rcases (h.own g b hbg).2 with h1 | h1
            · exact .inr (.inr h1)
            · exact .inr (.inl h1)
          · by_cases e:o = g
            · subst e; rw [fupd_same] at ho
              have:=(List.mem_filter.1 ho).2
              simp at this
              exact this hb
            · rw [fupd_ne _ e] at ho
              exact h.dis o g e b ho hbg)
        simpa only [frz] using hfz
    | _ => exact absurd rfl hp
theorem impCell_oe {own:Bool} {k:Nat} {p:PV}:∀ x ob,(x,ob) ∈ (impCell own k p).2 → x = k ∧ ∃ e s n cs,ob = .arr 0 e s n cs:=by
  intro x ob hm
  cases p <;> simp only [impCell] at hm
  case ow e s n cs =>
    split at hm
    · simp at hm; exact ⟨hm.1,e,s,n,cs,hm.2⟩
    · cases hm
  all_goals cases hm
theorem impCells_oe {own:Bool}:∀ {ps:List PV} {k:Nat} (x:Nat) (ob:AObj),(x,ob) ∈ (impCells own k ps).2 → (k ≤ x ∧ x < k + ps.length) ∧ ∃ e s n cs,ob = .arr 0 e s n cs
  | [],_,_,_,h => by simp [impCells] at h
  | p :: ps,k,x,ob,h => by
    simp only [impCells,List.mem_append] at h
    rcases h with h | h
    · obtain ⟨rfl,h2⟩:=impCell_oe x ob h; exact ⟨by simp,h2⟩
    · obtain ⟨h1,h2⟩:=impCells_oe x ob h; exact ⟨by simp; omega,h2⟩
theorem wr_arr_dead {r:List (Nat × AObj)} (h:∀ x ob,(x,ob) ∈ r → σ.o x = .none):∀ o,σ.o o = .dead → (AEnv.wr r σ).o o = .dead:=by
  intro o ho
  rw [wr_o_other (fun k ob hm e => by subst e; rw [h o ob hm] at ho; cases ho)]
  exact ho
theorem impCells_came {own:Bool} {g:Nat}:∀ {ps:List PV} {vs:List Value} {Fp:List Nat} {k:Nat} {σ:AEnv} {ι:Nat → Value} {Fs:Nat → List Nat},Sim C σ a w ι Fs → σ.o g = .none → (∀ x ob,(x,ob) ∈ (impCells own k ps).2 → σ.o x = .none) → k + ps.length ≤ g →
    Rs w (Un C w Fs) ps vs Fp → (∀ b,b ∈ Fp → b ∈ Fs g) → Fp.Nodup →
    ∃ ι' Fs',Came C σ a w ι Fs g Fp (impCells own k ps).2 ι' Fs' ∧ ARs w (Un C w Fs') (AEnv.wr (impCells own k ps).2 σ).o ι' (impCells own k ps).1 vs
  | [],[],Fp,k,σ,ι,Fs,h,hg,hk,hkg,hR,hsub,hnd => by
    simp only [Rs] at hR
    subst hR
    exact ⟨ι,Fs,⟨h,by simp,Later.refl h⟩,by simp [impCells,ARs]⟩
  | p :: ps,v :: vs,Fp,k,σ,ι,Fs,h,hg,hk,hkg,hR,hsub,hnd => by
    simp only [List.length_cons] at hkg
    simp only [Rs] at hR
    obtain ⟨F1,F2,h1,h2,rfl⟩:=hR
    rw [List.nodup_append] at hnd
    obtain ⟨ι1,Fs1,c1,r1⟩:=impCells_came (own:=own) (k:=k + 1) h hg (fun x ob hm => hk x ob (by simp only [impCells]; exact List.mem_append_right _ hm)) (by omega) h2 (fun b hb => hsub b (by simp [hb])) hnd.2.1
    have hσ1g:(AEnv.wr (impCells own (k + 1) ps).2 σ).o g = .none:=by
      rw [wr_o_other (fun x ob hm e => ?_)]
      · exact hg
      · subst e
        have:=(impCells_oe _ _ hm).1
        omega
    have hσ1k:∀ x ob,(x,ob) ∈ (impCell own k p).2 → (AEnv.wr (impCells own (k + 1) ps).2 σ).o x = .none:=fun x ob hm => by
      rw [wr_o_other (fun y ob' hm' e => ?_)]
      · exact hk x ob (by simp only [impCells]; exact List.mem_append_left _ hm)
      · subst e
        have h1:=(impCells_oe _ _ hm').1
        have h2:=(impCell_oe _ _ hm).1
        omega
    obtain ⟨ι2,Fs2,c2,r2⟩:=impCell_came (own:=own) c1.sim hσ1g hσ1k (by omega) (R_mono (fun j hj => c1.un hj) (fun _ _ => rfl) p v F1 h1 (fun _ _ => rfl))
      (fun b hb => (c1.ghost b).2 ⟨hsub b (by simp [hb]),fun hb2 => hnd.2.2 b hb b hb2 rfl⟩) hnd.1
    refine ⟨ι2,Fs2,⟨?_,fun b => ?_,?_⟩,?_⟩
    · simp only [impCells]; rw [wr_append]; exact c2.sim
    · rw [c2.ghost,c1.ghost]
      simp only [List.mem_append,not_or]
      constructor
      · rintro ⟨⟨x1,x2⟩,x3⟩; exact ⟨x1,x3,x2⟩
      · rintro ⟨x1,x3,x2⟩; exact ⟨⟨x1,x2⟩,x3⟩
    · simp only [impCells]; rw [wr_append]
      exact c1.later.trans c2.later (wr_arr_dead hσ1k)
    · simp only [impCells,ARs]; rw [wr_append]
      exact ⟨r2,ARs_later c2.later _ _ r1⟩
  | [],_ :: _,_,_,_,_,_,_,_,_,_,h,_,_ => by simp only [Rs] at h
  | _ :: _,[],_,_,_,_,_,_,_,_,_,h,_,_ => by simp only [Rs] at h
def smallP (st:Nat):CV → Bool
  | .agg ps => decide (ps.length ≤ st)
  | .v _ => true
  | .any => true
  | _ => false
def small1 (c:CV):Bool:=smallP 20 c
theorem tupStep_le {xs:List CV} (h:xs.length ≤ 4):tupStep xs * xs.length ≤ 60:=by
  match xs,h with
  | [],_ => simp
  | [_],_ => simp [tupStep]
  | [_,_],_ => simp [tupStep]
  | [_,_,_],_ => simp [tupStep]
  | [_,_,_,_],_ => simp [tupStep]
theorem tupStep_le2 {xs:List CV} (h:xs.length ≤ 2):tupStep xs * xs.length ≤ 40:=by
  match xs,h with
  | [],_ => simp
  | [_],_ => simp [tupStep]
  | [_,_],_ => simp [tupStep]
theorem tupStep_pos (xs:List CV):1 ≤ tupStep xs:=by
  unfold tupStep
  split <;> omega
theorem impOne_oe {own:Bool} {st k:Nat} {c:CV} (h1:1 ≤ st) (hs:smallP st c = true):∀ x ob,(x,ob) ∈ (impOne own k c).2 → (k ≤ x ∧ x < k + st) ∧ ∃ e s n cs,ob = .arr 0 e s n cs:=by
  intro x ob hm
  cases c with
  | v p => obtain ⟨rfl,h⟩:=impCell_oe x ob hm; exact ⟨by omega,h⟩
  | agg ps =>
    simp only [smallP,decide_eq_true_eq] at hs
    obtain ⟨h1,h2⟩:=impCells_oe x ob hm; exact ⟨by omega,h2⟩
  | _ => simp [impOne] at hm
theorem impOne_came {own:Bool} {st g k:Nat} {c:CV} {v:Value} {Fp:List Nat} (h:Sim C σ a w ι Fs) (hg:σ.o g = .none) (hk:∀ x ob,(x,ob) ∈ (impOne own k c).2 → σ.o x = .none) (h1:1 ≤ st) (hkg:k + st ≤ g) (hs:smallP st c = true)
    (hR:CR w (Un C w Fs) c v Fp) (hsub:∀ b,b ∈ Fp → b ∈ Fs g) (hnd:Fp.Nodup) :
    ∃ ι' Fs',Came C σ a w ι Fs g Fp (impOne own k c).2 ι' Fs' ∧ AR w (Un C w Fs') (AEnv.wr (impOne own k c).2 σ).o ι' (impOne own k c).1 v:=by
  cases c with
  | v p => simp only [CR] at hR; exact impCell_came h hg hk (by omega) hR hsub hnd
  | agg ps =>
    simp only [CR] at hR
    obtain ⟨vs,rfl,hR⟩:=hR
    simp only [smallP,decide_eq_true_eq] at hs
    obtain ⟨ι',Fs',c1,r1⟩:=impCells_came (own:=own) h hg hk (by omega) hR hsub hnd
    exact ⟨ι',Fs',c1,by simp only [impOne,AR]; exact ⟨vs,rfl,r1⟩⟩
  | any =>
    simp only [CR] at hR
    subst hR
    exact ⟨ι,Fs,⟨h,by simp,Later.refl h⟩,by simp only [impOne,AR]⟩
  | _ => simp [smallP] at hs
theorem impTup_oe {own:Bool} {st:Nat} (h1s:1 ≤ st):∀ {xs:List CV} {k:Nat},xs.all (smallP st) = true → ∀ x ob,(x,ob) ∈ (impTup own st k xs).2 → (k ≤ x ∧ x < k + st * xs.length) ∧ ∃ e s n cs,ob = .arr 0 e s n cs
  | [],_,_,_,_,h => by simp [impTup] at h
  | c :: xs,k,hs,x,ob,h => by
    simp only [List.all_cons,Bool.and_eq_true] at hs
    simp only [impTup,List.mem_append] at h
    rcases h with h | h
    · obtain ⟨h1,h2⟩:=impOne_oe h1s hs.1 x ob h; exact ⟨by rw [List.length_cons,Nat.mul_succ]; omega,h2⟩
    · obtain ⟨h1,h2⟩:=impTup_oe h1s hs.2 x ob h; exact ⟨by rw [List.length_cons,Nat.mul_succ]; omega,h2⟩
theorem impTup_came {own:Bool} {st g:Nat} (h1s:1 ≤ st):∀ {xs:List CV} {vs:List Value} {Fp:List Nat} {k:Nat} {σ:AEnv} {ι:Nat → Value} {Fs:Nat → List Nat},Sim C σ a w ι Fs → σ.o g = .none → (∀ x ob,(x,ob) ∈ (impTup own st k xs).2 → σ.o x = .none) → k + st * xs.length ≤ g → xs.all (smallP st) = true →
    CRs w (Un C w Fs) xs vs Fp → (∀ b,b ∈ Fp → b ∈ Fs g) → Fp.Nodup →
    ∃ ι' Fs',Came C σ a w ι Fs g Fp (impTup own st k xs).2 ι' Fs' ∧ ARs w (Un C w Fs') (AEnv.wr (impTup own st k xs).2 σ).o ι' (impTup own st k xs).1 vs
  | [],[],Fp,k,σ,ι,Fs,h,hg,hk,hkg,hs,hR,hsub,hnd => by
    simp only [CRs] at hR
    subst hR
    exact ⟨ι,Fs,⟨h,by simp,Later.refl h⟩,by simp [impTup,ARs]⟩
  | c :: xs,v :: vs,Fp,k,σ,ι,Fs,h,hg,hk,hkg,hs,hR,hsub,hnd => by
    rw [List.length_cons,Nat.mul_succ] at hkg
    simp only [List.all_cons,Bool.and_eq_true] at hs
    simp only [CRs] at hR
    obtain ⟨F1,F2,h1,h2,rfl⟩:=hR
    rw [List.nodup_append] at hnd
    obtain ⟨ι1,Fs1,c1,r1⟩:=impTup_came (own:=own) h1s (k:=k + st) h hg (fun x ob hm => hk x ob (by simp only [impTup]; exact List.mem_append_right _ hm)) (by omega) hs.2 h2 (fun b hb => hsub b (by simp [hb])) hnd.2.1
    have hσ1g:(AEnv.wr (impTup own st (k + st) xs).2 σ).o g = .none:=by
      rw [wr_o_other (fun x ob hm e => ?_)]
      · exact hg
      · subst e
        have:=(impTup_oe h1s hs.2 _ _ hm).1
        omega
    have hσ1k:∀ x ob,(x,ob) ∈ (impOne own k c).2 → (AEnv.wr (impTup own st (k + st) xs).2 σ).o x = .none:=fun x ob hm => by
      rw [wr_o_other (fun y ob' hm' e => ?_)]
      · exact hk x ob (by simp only [impTup]; exact List.mem_append_left _ hm)
      · subst e
        have h1:=(impTup_oe h1s hs.2 _ _ hm').1
        have h2:=(impOne_oe h1s hs.1 _ _ hm).1
        omega
    have hCR:CR w (Un C w Fs1) c v F1:=by
      cases c with
      | v p => simp only [CR] at h1 ⊢; exact R_mono (fun j hj => c1.un hj) (fun _ _ => rfl) p v F1 h1 (fun _ _ => rfl)
      | agg ps => simp only [CR] at h1 ⊢; obtain ⟨us,e,hr⟩:=h1; exact ⟨us,e,Rs_mono (fun j hj => c1.un hj) (fun _ _ => rfl) ps _ F1 hr (fun _ _ => rfl)⟩
      | any => simp only [CR] at h1 ⊢; exact h1
      | _ => simp [smallP] at hs
    obtain ⟨ι2,Fs2,c2,r2⟩:=impOne_came (own:=own) c1.sim hσ1g hσ1k h1s (by omega) hs.1 hCR
      (fun b hb => (c1.ghost b).2 ⟨hsub b (by simp [hb]),fun hb2 => hnd.2.2 b hb b hb2 rfl⟩) hnd.1
    refine ⟨ι2,Fs2,⟨?_,fun b => ?_,?_⟩,?_⟩
    · simp only [impTup]; rw [wr_append]; exact c2.sim
    · rw [c2.ghost,c1.ghost]
      simp only [List.mem_append,not_or]
      constructor
      · rintro ⟨⟨x1,x2⟩,x3⟩; exact ⟨x1,x3,x2⟩
      · rintro ⟨x1,x3,x2⟩; exact ⟨⟨x1,x2⟩,x3⟩
    · simp only [impTup]; rw [wr_append]
      exact c1.later.trans c2.later (wr_arr_dead hσ1k)
    · simp only [impTup,ARs]; rw [wr_append]
      exact ⟨r2,ARs_later c2.later _ _ r1⟩
  | [],_ :: _,_,_,_,_,_,_,_,_,_,_,h,_,_ => by simp only [CRs] at h
  | _ :: _,[],_,_,_,_,_,_,_,_,_,_,h,_,_ => by simp only [CRs] at h
theorem Rs_allFree {U:Nat → Prop}:∀ {ps:List PV} {vs:List Value} {F:List Nat},Rs w U ps vs F → ps.all isFree = true → F = []
  | [],[],F,h,_ => by simpa only [Rs] using h
  | p :: ps,v :: vs,F,h,hf => by
    simp only [List.all_cons,Bool.and_eq_true] at hf
    simp only [Rs] at h
    obtain ⟨F1,F2,h1,h2,rfl⟩:=h
    rw [R_free h1 hf.1,Rs_allFree h2 hf.2]; rfl
  | [],_ :: _,F,h,_ => by simp only [Rs] at h
  | _ :: _,[],F,h,_ => by simp only [Rs] at h
theorem ARs_ofC {U U':Nat → Prop} {O:Nat → AObj} {ι':Nat → Value} (hU:∀ j,U j → U' j):∀ {ps:List PV} {vs:List Value},Rs w U ps vs [] → ARs w U' O ι' (ps.map .c) vs
  | [],[],_ => by simp [ARs]
  | p :: ps,v :: vs,h => by
    simp only [Rs] at h
    obtain ⟨F1,F2,h1,h2,h3⟩:=h
    have h4:=List.append_eq_nil_iff.1 h3.symm
    rw [h4.1] at h1; rw [h4.2] at h2
    simp only [List.map_cons,ARs]
    exact ⟨by simp only [AR]; exact R_mono hU (fun _ _ => rfl) _ _ _ h1 (fun _ _ => rfl),ARs_ofC hU h2⟩
  | [],_ :: _,h => by simp only [Rs] at h
  | _ :: _,[],h => by simp only [Rs] at h
def small:CV → Bool
  | .tup xs => decide (xs.length ≤ 4) && xs.all (smallP (tupStep xs))
  | .ptr ps => ps.all isFree
  | x => smallP 20 x
theorem imp_came {own:Bool} {k:Nat} {c:CV} {v:Value} {Fp:List Nat} (h:Sim C σ a w ι Fs) (hg:σ.o (k + 63) = .none) (hk:∀ x ob,(x,ob) ∈ (imp own k c).2 → σ.o x = .none) (hs:small c = true)
    (hR:CR w (Un C w Fs) c v Fp) (hsub:∀ b,b ∈ Fp → b ∈ Fs (k + 63)) (hnd:Fp.Nodup) :
    ∃ ι' Fs',Came C σ a w ι Fs (k + 63) Fp (imp own k c).2 ι' Fs' ∧ AR w (Un C w Fs') (AEnv.wr (imp own k c).2 σ).o ι' (imp own k c).1 v:=by
  cases c with
  | tup xs =>
    simp only [CR] at hR
    obtain ⟨vs,rfl,hR⟩:=hR
    simp only [small,Bool.and_eq_true,decide_eq_true_eq] at hs
    obtain ⟨ι',Fs',c1,r1⟩:=impTup_came (own:=own) (tupStep_pos xs) h hg hk (by have:=tupStep_le hs.1; omega) hs.2 hR hsub hnd
    exact ⟨ι',Fs',c1,by simp only [imp,AR]; exact ⟨vs,rfl,r1⟩⟩
  | ptr ps =>
    simp only [small] at hs
    simp only [CR] at hR
    obtain ⟨b,vals,ty,F',rfl,hb,h1,hr,rfl⟩:=hR
    have hF:=Rs_allFree hr hs
    subst hF
    have hk1:σ.o k = .none:=hk k (.box (ps.map .c)) (by simp [imp])
    refine ⟨_,_,h.takeOb hg hk1 (by omega) hsub hnd (ob:=.box (ps.map .c)) (v:=.pointer (some ⟨b,0,none⟩)) (fun U' O' ι' hU => ⟨b,vals,ty,rfl,hb,ARs_ofC hU hr,h1,rfl⟩),?_⟩
    simp only [imp,AR,AEnv.wr,AEnv.upd,if_true,fupd_same]
    exact ⟨b,rfl,rfl⟩
  | pc ps => simp [small,smallP] at hs
  | fn f ps => simp [small,smallP] at hs
  | v p => exact impOne_came (st:=20) h hg hk (by omega) (by omega) hs hR hsub hnd
  | agg ps => exact impOne_came (st:=20) h hg hk (by omega) (by omega) hs hR hsub hnd
  | any => exact impOne_came (st:=20) h hg hk (by omega) (by omega) hs hR hsub hnd
end
end Am
