/- What acts come to,whatever their order. No condition. -/
import Derived.Test.YtjbbhccphedkfaaGreatD
import Derived.Test.YtjbbhccphedkfaaGreatE59
import Derived.Test.YtjbbhccphedkfaaGreatT
import Derived.Test.YtjbbhccphedkfaaGreatE55
import Derived.Test.YtjbbhccphedkfaaGreatAm31
set_option linter.unusedSimpArgs false
set_option linter.unusedVariables false
set_option linter.unnecessarySimpa false
set_option linter.unusedSectionVars false
namespace Am
open Go
def counts (o:ByteArray) (r:Int) (a:GAct):Bool:=decide (a.kind = 1 ∧ a.obj = o ∧ a.dot.rep = r)
def sumV (o:ByteArray) (r:Int):List GAct → Int
  | [] => 0
  | a :: D => if counts o r a then a.val + sumV o r D else sumV o r D
def puts (a:GAct) (x:GLive):Prop:=(a.kind = 2 ∧ x = ⟨false,a.obj,a.key,0,a.dot⟩) ∨ (a.kind = 4 ∧ x = ⟨true,a.obj,a.key,a.val,a.dot⟩)
def takes (y:GAct) (x:GLive):Prop:=x.obj = y.obj ∧ x.key = y.key ∧ knows y.knew x.dot = true ∧ ((y.kind = 3 ∧ x.map = false) ∨ ((y.kind = 4 ∨ y.kind = 5) ∧ x.map = true))
def celOf (a:GAct) (g:Bool):GCell:=⟨a.obj,a.dot,a.time,a.ref,a.val,g⟩
def isCut (D:List GAct) (d:GDot):Prop:=∃ y,y ∈ D ∧ y.kind = 7 ∧ y.ref = d
structure Canon (D:List GAct) (s:GState):Prop where
  sok:SOK s
  know:∀ d,knows s.know d = true ↔ ∃ a,a ∈ D ∧ a.dot = d
  tal:∀ t:GTally,t ∈ s.tallies ↔ (∃ a,a ∈ D ∧ counts t.obj t.rep a = true) ∧ t.sum = sumV t.obj t.rep D % 1000000
  liv:∀ x:GLive,x ∈ s.lives ↔ (∃ a,a ∈ D ∧ puts a x) ∧ ¬ ∃ y,y ∈ D ∧ takes y x
  cel:∀ c:GCell,c ∈ s.cs ↔ ∃ a,a ∈ D ∧ a.kind = 6 ∧ c = celOf a c.gone ∧ (c.gone = true ↔ isCut D a.dot)
  acts:∀ a,a ∈ D → actOk a = true ∧ knowIn a.knew s.know = true
  nod:(D.map (·.dot)).Nodup
end Am
namespace Am
open Go
end Am
namespace Am
open Go
end Am
namespace Am
open Go
end Am
namespace Am
open Go
end Am
namespace Am
open Go
end Am
namespace Am
open Go
end Am
namespace Am
open Go
def newS:GState:=⟨[0,0,0],[],[],[]⟩
def doK (l:List GAct) (s:GState):Nat → GState
  | 0 => s
  | i + 1 => (doAct (doK l s i) (nth l i)).1
def whole (l:List GAct):Prop:=∀ i:Nat,i < l.length → (doAct (doK l newS i) (nth l i)).2 = 0
end Am
namespace Am
open Go
end Am
namespace Am
open Go Go.Proofs
def later (a b:GCell):Bool:=decide (b.time < a.time) || (decide (a.time = b.time) && before b.dot a.dot)
theorem later_Lt:Lt later:=⟨fun a b h => by
  simp only [later,Bool.or_eq_true,Bool.and_eq_true,decide_eq_true_eq] at h
  simp only [later,Bool.or_eq_false_iff,Bool.and_eq_false_iff,decide_eq_false_iff_not]
  rcases h with h | ⟨h,h2⟩
  · exact ⟨by omega,.inl (by omega)⟩
  · exact ⟨by omega,.inr (before_Lt.asym _ _ h2)⟩,fun a b c h h' => by
  simp only [later,Bool.or_eq_true,Bool.and_eq_true,decide_eq_true_eq] at h h' ⊢
  rcases h with h | ⟨h,h2⟩ <;> rcases h' with h' | ⟨h',h2'⟩
  · exact .inl (by omega)
  · exact .inl (by omega)
  · exact .inl (by omega)
  · exact .inr ⟨by omega,before_trans h2' h2⟩⟩
theorem later_tri {a b:GCell} (h:a.dot ≠ b.dot) (h2:later a b = false):later b a = true:=by
  simp only [later,Bool.or_eq_false_iff,Bool.and_eq_false_iff,decide_eq_false_iff_not] at h2
  simp only [later,Bool.or_eq_true,Bool.and_eq_true,decide_eq_true_eq]
  by_cases e:a.time = b.time
  · right
    refine ⟨e.symm,?_⟩
    rcases h2.2 with h3 | h3
    · exact absurd e h3
    · exact before_ne (fun e2 => h e2.symm) h3
  · left; omega
structure RowF (cs:List GCell):Prop where
  sorted:SortC cs
  nz:∀ c,c ∈ cs → c.dot ≠ zeroDot
  tim:∀ c,c ∈ cs → 1 ≤ c.time ∧ c.time ≤ 10000
  ref:∀ c,c ∈ cs → c.ref = zeroDot ∨ ∃ p,p ∈ cs ∧ p.dot = c.ref ∧ p.obj = c.obj ∧ p.time < c.time
  few:cs.length ≤ 120
theorem RowF.uniq {cs:List GCell} (h:RowF cs) {x y:GCell} (hx:x ∈ cs) (hy:y ∈ cs) (e:x.dot = y.dot):x = y:=by
  obtain ⟨i,hi,rfl⟩:=mem_nth hx
  obtain ⟨j,hj,rfl⟩:=mem_nth hy
  rcases Nat.lt_trichotomy i j with h1 | h1 | h1
  · have:=pw_nth h.sorted h1 hj
    simp only [cellLt] at this
    rw [e,before_irr] at this; cases this
  · rw [h1]
  · have:=pw_nth h.sorted h1 hi
    simp only [cellLt] at this
    rw [e,before_irr] at this; cases this
theorem rowF_of {s:GState} (h:stateOk s = true):RowF s.cs:=by
  have hk:celKsOk s.cs s.know = true:=by
    simp only [stateOk,Bool.and_eq_true] at h; exact h.1.2
  have hr:allB (refAt s.cs) s.cs.length = true:=by
    simp only [stateOk,Bool.and_eq_true] at h; exact h.2
  simp only [celKsOk,Bool.and_eq_true] at hk
  have h2:=allB_iff.1 hk.2
  have hr2:=allB_iff.1 hr
  refine ⟨stateOk_cells h,fun c hc => ?_,fun c hc => ?_,fun c hc => ?_,(stateOk_len h).2.2⟩
  · obtain ⟨i,hi,rfl⟩:=mem_nth hc
    have h3:=h2 i hi
    simp only [celKAt,knows,dotOk,spIn,Bool.and_eq_true,decide_eq_true_eq] at h3
    intro e
    rw [e] at h3
    simp only [zeroDot] at h3
    omega
  · obtain ⟨i,hi,rfl⟩:=mem_nth hc
    have h3:=h2 i hi
    simp only [celKAt,cellOk',spIn,Bool.and_eq_true,decide_eq_true_eq] at h3
    omega
  · obtain ⟨i,hi,rfl⟩:=mem_nth hc
    have h3:=hr2 i hi
    simp only [refAt,Bool.or_eq_true,Bool.and_eq_true,beq_iff_eq] at h3
    rcases h3 with h3 | h3
    · exact .inl (GDot.ext h3.1 h3.2)
    · right
      simp only [refGood,Bool.and_eq_true,decide_eq_true_eq] at h3
      rcases cellAt_cases s.cs (nth s.cs i).ref with h4 | ⟨j,hj,h4⟩
      · omega
      · rw [h4] at h3
        simp only [Int.toNat_natCast] at h3
        have h5:=idx_at (p:=dotIs (nth s.cs i).ref) h4
        simp only [dotIs,decide_eq_true_eq] at h5
        exact ⟨_,nth_mem hj,h5,h3.1.2,h3.2⟩
def kidP (o:ByteArray) (r:GDot) (x:GCell):Bool:=decide (x.obj = o) && decide (x.ref = r)
def kids (cs:List GCell) (o:ByteArray) (r:GDot):List GCell:=insN later (kidP o r) [] cs cs.length
def pre (cs:List GCell) (o:ByteArray):Nat → GDot → List GCell
  | 0,_ => []
  | n + 1,r => (kids cs o r).flatMap fun k => k :: pre cs o n k.dot
theorem kids_mem {cs:List GCell} {o:ByteArray} {r:GDot} {k:GCell} (h:k ∈ kids cs o r):k ∈ cs ∧ k.obj = o ∧ k.ref = r:=by
  rcases (filK_mem (Nat.le_refl _)).1 ((insN_perm _ _ _ _ _).mem_iff.1 h) with h | ⟨i,hi,rfl,hp⟩
  · cases h
  · simp only [kidP,Bool.and_eq_true,decide_eq_true_eq] at hp
    exact ⟨nth_mem hi,hp.1,hp.2⟩
theorem kids_len (cs:List GCell) (o:ByteArray) (r:GDot):(kids cs o r).length ≤ cs.length:=by
  have:=insN_len later (kidP o r) [] cs cs.length
  simpa [kids] using this
theorem insLater_sorted {cs:List GCell} (h:RowF cs) (p:GCell → Bool) (n:Nat) (hn:n ≤ cs.length):(insN later p [] cs n).Pairwise fun a b => later a b = true:=by
  refine insN_sorted later_Lt List.Pairwise.nil (fun i hi hp y hy h2 => later_tri (fun e => ?_) h2) n hn
  rcases hy with hy | ⟨j,hj,rfl,_⟩
  · cases hy
  · have:=pw_nth h.sorted hj hi
    simp only [cellLt] at this
    rw [e,before_irr] at this; cases this
def fuelOk (cs:List GCell) (n:Nat) (r:GDot):Prop:=(r = zeroDot ∧ 10001 ≤ n) ∨ ∃ p,p ∈ cs ∧ p.dot = r ∧ 10000 - p.time < n
theorem fuel_kid {cs:List GCell} (h:RowF cs) {o:ByteArray} {n:Nat} {r:GDot} (hf:fuelOk cs (n + 1) r) {k:GCell} (hk:k ∈ kids cs o r):fuelOk cs n k.dot:=by
  obtain ⟨k1,k2,k3⟩:=kids_mem hk
  refine .inr ⟨k,k1,rfl,?_⟩
  have t1:=h.tim k k1
  rcases hf with ⟨hz,hn⟩ | ⟨p,hp,e,ht⟩
  · omega
  · rcases h.ref k k1 with h2 | ⟨q,hq,e2,_,ht2⟩
    · exact absurd (e.trans (k3.symm.trans h2)) (h.nz p hp)
    · have:q = p:=h.uniq hq hp (by rw [e2,k3,e])
      subst this
      omega
theorem fuel0 {cs:List GCell} (h:RowF cs) {r:GDot}:¬ fuelOk cs 0 r:=by
  rintro (⟨_,h1⟩ | ⟨p,hp,_,ht⟩)
  · omega
  · have:=h.tim p hp; omega
theorem pre_stable {cs:List GCell} (h:RowF cs) {o:ByteArray}:∀ {n m:Nat} {r:GDot},fuelOk cs n r → n ≤ m → pre cs o m r = pre cs o n r
  | 0,m,r,hf,_ => absurd hf (fuel0 h)
  | n + 1,0,r,hf,hm => by omega
  | n + 1,m + 1,r,hf,hm => by
    simp only [pre]
    have key:∀ l:List GCell,(∀ k,k ∈ l → k ∈ kids cs o r) → (l.flatMap fun k => k :: pre cs o m k.dot) = l.flatMap fun k => k :: pre cs o n k.dot:=by
      intro l
      induction l with
      | nil => intro _; rfl
      | cons k l ih =>
        intro hl
        simp only [List.flatMap_cons]
        rw [ih (fun x hx => hl x (List.mem_cons_of_mem _ hx)),pre_stable h (fuel_kid h hf (hl k (by simp))) (by omega)]
    exact key _ fun _ hk => hk
def preO (cs:List GCell) (o:ByteArray) (r:GDot):List GCell:=pre cs o 10001 r
def preD (cs:List GCell) (o:ByteArray) (r:GDot):List GDot:=(preO cs o r).map (·.dot)
theorem fuel_top {cs:List GCell} (h:RowF cs) {r:GDot} (hr:r = zeroDot ∨ ∃ p,p ∈ cs ∧ p.dot = r):fuelOk cs 10001 r:=by
  rcases hr with hr | ⟨p,hp,e⟩
  · exact .inl ⟨hr,by omega⟩
  · exact .inr ⟨p,hp,e,by have:=h.tim p hp; omega⟩
theorem flatMap_map {α β γ:Type} (f:β → γ) (g:α → List β):∀ l:List α,(l.flatMap g).map f = l.flatMap fun a => (g a).map f
  | [] => rfl
  | a :: l => by simp [List.flatMap_cons,flatMap_map f g l]
theorem pre_eq {cs:List GCell} (h:RowF cs) {o:ByteArray} {N:Nat} {r:GDot} (hf:fuelOk cs (N + 1) r):pre cs o (N + 1) r = (kids cs o r).flatMap fun k => k :: pre cs o (N + 1) k.dot:=by
  have e:∀ l:List GCell,(∀ k,k ∈ l → k ∈ kids cs o r) → (l.flatMap fun k => k :: pre cs o N k.dot) = l.flatMap fun k => k :: pre cs o (N + 1) k.dot:=by
    intro l
    induction l with
    | nil => intro _; rfl
    | cons k l ih =>
      intro hl
      simp only [List.flatMap_cons]
      rw [ih (fun x hx => hl x (List.mem_cons_of_mem _ hx))]
      rw [pre_stable h (o:=o) (fuel_kid h hf (hl k (by simp))) (show N ≤ N + 1 by omega)]
  exact e _ fun _ hk => hk
theorem preO_eq {cs:List GCell} (h:RowF cs) {o:ByteArray} {r:GDot} (hr:r = zeroDot ∨ ∃ p,p ∈ cs ∧ p.dot = r):preO cs o r = (kids cs o r).flatMap fun k => k :: preO cs o k.dot :=
  pre_eq h (N:=10000) (fuel_top h hr)
theorem preD_eq {cs:List GCell} (h:RowF cs) {o:ByteArray} {r:GDot} (hr:r = zeroDot ∨ ∃ p,p ∈ cs ∧ p.dot = r):preD cs o r = ((kids cs o r).map (·.dot)).flatMap fun d => d :: preD cs o d:=by
  unfold preD
  rw [preO_eq h hr,flatMap_map,List.flatMap_map]
  rfl
structure Dfs (cs:List GCell) (o:ByteArray) (q:List GDot × List GDot):Prop where
  all:q.1 ++ q.2.flatMap (fun r => if r = zeroDot then preD cs o r else r :: preD cs o r) = preD cs o zeroDot
  nodup:(q.1 ++ q.2).Nodup
  from':∀ x,x ∈ q.1 ++ q.2 → x = zeroDot ∨ ∃ c,c ∈ cs ∧ c.dot = x ∧ (c.ref = zeroDot ∨ c.ref ∈ q.1)
  zero:zeroDot ∈ q.2 → q = ([],[zeroDot])
  zero1:zeroDot ∉ q.1
theorem Dfs.start (cs:List GCell) (o:ByteArray):Dfs cs o ([],[zeroDot]) where
  all:=by simp
  nodup:=by simp
  from':=by simp
  zero:=fun _ => rfl
  zero1:=by simp
def dfsStep (cs:List GCell) (o:ByteArray) (d:List GDot) (t:GDot) (rest:List GDot):List GDot × List GDot:=(if t = zeroDot then d else d ++ [t],(kids cs o t).map (·.dot) ++ rest)
theorem nodup_dots {cs:List GCell} (h:RowF cs) {l:List GCell} (hl:l.Nodup) (hm:∀ x,x ∈ l → x ∈ cs):(l.map (·.dot)).Nodup:=by
  induction l with
  | nil => simp
  | cons x l ih =>
    rw [List.nodup_cons] at hl
    rw [List.map_cons,List.nodup_cons]
    refine ⟨fun hx => ?_,ih hl.2 fun y hy => hm y (List.mem_cons_of_mem _ hy)⟩
    obtain ⟨y,hy,e⟩:=List.mem_map.1 hx
    have:=h.uniq (hm y (List.mem_cons_of_mem _ hy)) (hm x (by simp)) e
    exact hl.1 (this ▸ hy)
theorem kids_nodup {cs:List GCell} (h:RowF cs) (o:ByteArray) (r:GDot):(kids cs o r).Nodup:=by
  have hs:=insLater_sorted h (kidP o r) cs.length (Nat.le_refl _)
  rw [List.nodup_iff_pairwise_ne]
  refine hs.imp fun {a b} hab e => ?_
  have:=later_Lt.asym a b hab
  rw [← e] at this hab
  rw [hab] at this; cases this
theorem Dfs.step {cs:List GCell} (h:RowF cs) {o:ByteArray} {d:List GDot} {t:GDot} {rest:List GDot} (q:Dfs cs o (d,t :: rest)):Dfs cs o (dfsStep cs o d t rest):=by
  obtain ⟨q1,q2,q3,q4,q5⟩:=q
  simp only at q1 q2 q3 q4 q5
  have ht:t = zeroDot ∨ ∃ p,p ∈ cs ∧ p.dot = t:=by
    rcases q3 t (by simp) with h1 | ⟨c,hc,e,_⟩
    · exact .inl h1
    · exact .inr ⟨c,hc,e⟩
  have hkn:∀ k,k ∈ kids cs o t → k.dot ≠ zeroDot:=fun k hk => h.nz k (kids_mem hk).1
  have hfl:∀ l:List GCell,(∀ k,k ∈ l → k.dot ≠ zeroDot) → ((l.map (·.dot)).flatMap fun r => if r = zeroDot then preD cs o r else r :: preD cs o r) = (l.map (·.dot)).flatMap fun r => r :: preD cs o r:=by
    intro l
    induction l with
    | nil => intro _; rfl
    | cons k l ih =>
      intro hl
      simp only [List.map_cons,List.flatMap_cons]
      rw [ih fun x hx => hl x (List.mem_cons_of_mem _ hx),if_neg (hl k (by simp))]
  have hall:((kids cs o t).map (·.dot)).flatMap (fun r => if r = zeroDot then preD cs o r else r :: preD cs o r) = preD cs o t:=by
    rw [hfl _ hkn,← preD_eq h ht]
  have fresh:∀ x,x ∈ (kids cs o t).map (·.dot) → x ∉ d ∧ x ∉ t :: rest:=by
    intro x hx
    obtain ⟨k,hk,rfl⟩:=List.mem_map.1 hx
    obtain ⟨k1,k2,k3⟩:=kids_mem hk
    have key:k.dot ∉ d ++ t :: rest:=by
      intro hm
      rcases q3 _ hm with h1 | ⟨c,hc,e,hr⟩
      · exact h.nz k k1 h1
      · have:=h.uniq hc k1 e
        subst this
        rw [k3] at hr
        rcases hr with hr | hr
        · subst hr
          have:=q4 (by simp)
          simp only [Prod.mk.injEq,List.cons.injEq] at this
          obtain ⟨rfl,_,rfl⟩:=this
          simp at hm
          exact h.nz c hc hm
        · rw [List.nodup_append] at q2
          exact q2.2.2 t hr t (by simp) rfl
    rw [List.mem_append] at key
    exact ⟨fun hh => key (.inl hh),fun hh => key (.inr hh)⟩
  have hkd:=nodup_dots h (kids_nodup h o t) (fun x hx => (kids_mem hx).1)
  by_cases hz:t = zeroDot
  · subst hz
    have hq:=q4 (by simp)
    simp only [Prod.mk.injEq,List.cons.injEq] at hq
    obtain ⟨rfl,_,rfl⟩:=hq
    simp only [dfsStep,if_true]
    refine ⟨?_,?_,?_,?_,by simp⟩
    · simp only [List.append_nil,List.nil_append]; exact hall
    · simpa using hkd
    · intro x hx
      simp only [List.append_nil,List.nil_append] at hx
      obtain ⟨k,hk,rfl⟩:=List.mem_map.1 hx
      exact .inr ⟨k,(kids_mem hk).1,rfl,.inl (kids_mem hk).2.2⟩
    · intro hx
      simp only [List.append_nil] at hx
      obtain ⟨k,hk,e⟩:=List.mem_map.1 hx
      exact absurd e (hkn k hk)
  · simp only [dfsStep,if_neg hz]
    have hrz:zeroDot ∉ rest:=by
      intro hm
      have:=q4 (List.mem_cons_of_mem _ hm)
      simp only [Prod.mk.injEq,List.cons.injEq] at this
      exact hz this.2.1
    refine ⟨?_,?_,?_,?_,?_⟩
    · rw [← q1]
      simp only [List.flatMap_append,List.flatMap_cons,if_neg hz,List.append_assoc,List.cons_append,List.nil_append]
      rw [hall]
    · simp only
      rw [List.nodup_append] at q2 ⊢
      obtain ⟨n1,n2,n3⟩:=q2
      rw [List.nodup_cons] at n2
      refine ⟨?_,?_,?_⟩
      · rw [List.nodup_append]
        exact ⟨n1,by simp,fun a ha b hb => by simp only [List.mem_singleton] at hb; subst hb; exact n3 a ha _ (by simp)⟩
      · rw [List.nodup_append]
        exact ⟨hkd,n2.2,fun a ha b hb e => (fresh a ha).2 (by rw [e]; exact List.mem_cons_of_mem _ hb)⟩
      · intro a ha b hb e
        subst e
        rcases List.mem_append.1 ha with ha2 | ha2 <;> rcases List.mem_append.1 hb with hb2 | hb2
        · exact (fresh a hb2).1 ha2
        · exact n3 a ha2 a (List.mem_cons_of_mem _ hb2) rfl
        · exact (fresh _ hb2).2 (by simp only [List.mem_singleton] at ha2; rw [ha2]; simp)
        · exact n2.1 (by simp only [List.mem_singleton] at ha2; rw [← ha2]; exact hb2)
    · intro x hx
      simp only [List.mem_append,List.mem_singleton] at hx
      have old:x ∈ d ++ t :: rest → x = zeroDot ∨ ∃ c,c ∈ cs ∧ c.dot = x ∧ (c.ref = zeroDot ∨ c.ref ∈ d ++ [t]):=by
        intro hm
        rcases q3 x hm with h1 | ⟨c,hc,e,hr⟩
        · exact .inl h1
        · refine .inr ⟨c,hc,e,?_⟩
          rcases hr with hr | hr
          · exact .inl hr
          · exact .inr (by simp [hr])
      rcases hx with (hx | hx) | (hx | hx)
      · exact old (by simp [hx])
      · exact old (by simp [hx])
      · obtain ⟨k,hk,rfl⟩:=List.mem_map.1 hx
        exact .inr ⟨k,(kids_mem hk).1,rfl,.inr (by simp [(kids_mem hk).2.2])⟩
      · exact old (by simp [hx])
    · intro hx
      simp only [List.mem_append] at hx
      rcases hx with hx | hx
      · obtain ⟨k,hk,e⟩:=List.mem_map.1 hx
        exact absurd e (hkn k hk)
      · exact absurd hx hrz
    · simp only [List.mem_append,List.mem_singleton]
      rintro (hx | hx)
      · exact q5 hx
      · exact hz hx.symm
theorem nodup_le {α:Type} [DecidableEq α]:∀ {l m:List α},l.Nodup → (∀ x,x ∈ l → x ∈ m) → l.length ≤ m.length
  | [],_,_,_ => by simp
  | x :: l,m,hn,hm => by
    rw [List.nodup_cons] at hn
    have h1:x ∈ m:=hm x (by simp)
    have h2:=nodup_le (m:=m.erase x) hn.2 fun y hy => by
      have hne:y ≠ x:=fun e => hn.1 (by rw [← e]; exact hy)
      exact (List.mem_erase_of_ne hne).2 (hm y (List.mem_cons_of_mem _ hy))
    rw [List.length_erase_of_mem h1] at h2
    have:0 < m.length:=List.length_pos_of_mem h1
    simp only [List.length_cons]
    omega
theorem Dfs.len {cs:List GCell} {o:ByteArray} {q:List GDot × List GDot} (h:Dfs cs o q):q.1.length + q.2.length ≤ cs.length + 1:=by
  have:=nodup_le (m:=zeroDot :: cs.map (·.dot)) h.nodup fun x hx => by
    rcases h.from' x hx with h1 | ⟨c,hc,e,_⟩
    · simp [h1]
    · exact List.mem_cons_of_mem _ (e ▸ List.mem_map_of_mem hc)
  simpa using this
theorem Dfs.len1 {cs:List GCell} {o:ByteArray} {q:List GDot × List GDot} (h:Dfs cs o q):q.1.length ≤ cs.length:=by
  have h2:=h.nodup
  rw [List.nodup_append] at h2
  have:=nodup_le (m:=cs.map (·.dot)) h2.1 fun x hx => by
    rcases h.from' x (List.mem_append_left _ hx) with h1 | ⟨c,hc,e,_⟩
    · exact absurd hx (h1 ▸ h.zero1)
    · exact e ▸ List.mem_map_of_mem hc
  simpa using this
def dfsMu (cs:List GCell) (q:List GDot × List GDot):Nat:=(cs.length + 1 - q.1.length) + (if q.2 = [zeroDot] then 1 else 0)
theorem Dfs.less {cs:List GCell} (h:RowF cs) {o:ByteArray} {d:List GDot} {t:GDot} {rest:List GDot} (q:Dfs cs o (d,t :: rest)):dfsMu cs (dfsStep cs o d t rest) < dfsMu cs (d,t :: rest):=by
  have hs:=q.step h
  have l1:=q.len1
  have l2:=hs.len1
  by_cases hz:t = zeroDot
  · have hq:=q.zero (by simp [hz])
    simp only [Prod.mk.injEq] at hq
    obtain ⟨rfl,e⟩:=hq
    rw [e]
    simp only [List.cons.injEq] at e
    obtain ⟨rfl,rfl⟩:=e
    simp only [dfsMu,dfsStep,if_true]
    rw [if_neg]
    · omega
    · intro e
      simp only [List.append_nil] at e
      have:zeroDot ∈ (kids cs o zeroDot).map (·.dot):=by rw [e]; simp
      obtain ⟨k,hk,e2⟩:=List.mem_map.1 this
      exact h.nz k (kids_mem hk).1 e2
  · have hn:¬ (dfsStep cs o d t rest).2 = [zeroDot]:=by
      intro e
      have:=hs.zero (by rw [e]; simp)
      simp only [dfsStep,if_neg hz,Prod.mk.injEq] at this
      simp at this
    simp only [dfsMu,if_neg hn]
    simp only [dfsStep,if_neg hz,List.length_append,List.length_singleton] at l2 ⊢
    split <;> omega
theorem Dfs.end {cs:List GCell} (h:RowF cs) {o:ByteArray}:∀ {n:Nat} {q:List GDot × List GDot},Dfs cs o q → dfsMu cs q ≤ n → Dfs cs o (preD cs o zeroDot,[])
  | n,(d,[]),q,_ => by
    have:=q.all
    simp only [List.flatMap_nil,List.append_nil] at this
    rw [← this]; exact q
  | 0,(d,t :: rest),q,hn => by have:=q.less h; omega
  | n + 1,(d,t :: rest),q,hn => Dfs.end h (n:=n) (q.step h) (by have:=q.less h; omega)
theorem preD_len {cs:List GCell} (h:RowF cs) (o:ByteArray):(preD cs o zeroDot).length ≤ cs.length:=by
  have:=(Dfs.end h (Dfs.start cs o) (Nat.le_refl _)).len1
  simpa using this
theorem preO_len {cs:List GCell} (h:RowF cs) (o:ByteArray):(preO cs o zeroDot).length ≤ cs.length:=by
  have:=preD_len h o
  simpa [preD] using this
def row (s:GState) (o:ByteArray):List GCell:=if stateOk s = true then preO s.cs o zeroDot else []
def rowLive (s:GState) (o:ByteArray):List GCell:=(row s o).filter fun c => !c.gone
def placeIn (s:GState) (o:ByteArray) (i:Int):GDot × Bool:=if 0 ≤ i ∧ i < (rowLive s o).length then ((nth (rowLive s o) i.toNat).dot,true) else (zeroDot,false)
theorem row_len (s:GState) (o:ByteArray):(row s o).length ≤ 120:=by
  unfold row
  split
  · rename_i h
    have:=preO_len (rowF_of h) o
    have:=(rowF_of h).few
    omega
  · simp
end Am
