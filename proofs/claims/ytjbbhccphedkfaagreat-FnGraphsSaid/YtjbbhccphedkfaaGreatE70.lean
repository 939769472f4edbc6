/- Rows: what stands behind what,in order: nothing of the program. No condition. -/
import Derived.Test.YtjbbhccphedkfaaGreatT
import Derived.Test.YtjbbhccphedkfaaGreatD
import Derived.Test.YtjbbhccphedkfaaGreatE53
import Derived.Test.YtjbbhccphedkfaaGreatAm31
import Derived.Test.YtjbbhccphedkfaaGreatE56
import Derived.Test.YtjbbhccphedkfaaGreatE96
set_option linter.unusedSimpArgs false
set_option linter.unusedVariables false
set_option linter.unnecessarySimpa false
set_option linter.unusedSectionVars false
namespace Am
open Go Go.Proofs
def later (a b:GCell):Bool:=decide (b.time < a.time) || (decide (a.time = b.time) && before b.dot a.dot)
theorem later_Lt:Lt later:=⟨fun a b h => by
  simp only [later,Bool.or_eq_true,Bool.and_eq_true,decide_eq_true_eq] at h
  simp only [later,Bool.or_eq_false_iff,Bool.and_eq_false_iff,decide_eq_false_iff_not]
  rcases h with h | ⟨h,h2⟩
  · exact ⟨by omega,.inl (by omega)⟩
  · exact ⟨by omega,.inr (before_Lt.asym _ _ h2)⟩,fun a b c h h' => by
  simp only [later,Bool.or_eq_true,Bool.and_eq_true,decide_eq_true_eq] at h h' ⊢
  rcases h with h | ⟨h,h2⟩ <;> rcases h' with h' | ⟨h',h2'⟩
  · exact .inl (by omega)
  · exact .inl (by omega)
  · exact .inl (by omega)
  · exact .inr ⟨by omega,before_trans h2' h2⟩⟩
theorem later_tri {a b:GCell} (h:a.dot ≠ b.dot) (h2:later a b = false):later b a = true:=by
  simp only [later,Bool.or_eq_false_iff,Bool.and_eq_false_iff,decide_eq_false_iff_not] at h2
  simp only [later,Bool.or_eq_true,Bool.and_eq_true,decide_eq_true_eq]
  by_cases e:a.time = b.time
  · right
    refine ⟨e.symm,?_⟩
    rcases h2.2 with h3 | h3
    · exact absurd e h3
    · exact before_ne (fun e2 => h e2.symm) h3
  · left; omega
structure RowF (cs:List GCell):Prop where
  sorted:SortC cs
  nz:∀ c,c ∈ cs → c.dot ≠ zeroDot
  tim:∀ c,c ∈ cs → 1 ≤ c.time ∧ c.time ≤ 10000
  ref:∀ c,c ∈ cs → c.ref = zeroDot ∨ ∃ p,p ∈ cs ∧ p.dot = c.ref ∧ p.obj = c.obj ∧ p.time < c.time
  few:cs.length ≤ 120
theorem RowF.uniq {cs:List GCell} (h:RowF cs) {x y:GCell} (hx:x ∈ cs) (hy:y ∈ cs) (e:x.dot = y.dot):x = y:=by
  obtain ⟨i,hi,rfl⟩:=mem_nth hx
  obtain ⟨j,hj,rfl⟩:=mem_nth hy
  rcases Nat.lt_trichotomy i j with h1 | h1 | h1
  · have:=pw_nth h.sorted h1 hj
    simp only [cellLt] at this
    rw [e,before_irr] at this; cases this
  · rw [h1]
  · have:=pw_nth h.sorted h1 hi
    simp only [cellLt] at this
    rw [e,before_irr] at this; cases this
theorem rowF_of {s:GState} (h:stateOk s = true):RowF s.cs:=by
  have hk:celKsOk s.cs s.know = true:=by
    simp only [stateOk,Bool.and_eq_true] at h; exact h.1.2
  have hr:allB (refAt s.cs) s.cs.length = true:=by
    simp only [stateOk,Bool.and_eq_true] at h; exact h.2
  simp only [celKsOk,Bool.and_eq_true] at hk
  have h2:=allB_iff.1 hk.2
  have hr2:=allB_iff.1 hr
  refine ⟨stateOk_cells h,fun c hc => ?_,fun c hc => ?_,fun c hc => ?_,(stateOk_len h).2.2⟩
  · obtain ⟨i,hi,rfl⟩:=mem_nth hc
    have h3:=h2 i hi
    simp only [celKAt,knows,dotOk,spIn,Bool.and_eq_true,decide_eq_true_eq] at h3
    intro e
    rw [e] at h3
    simp only [zeroDot] at h3
    omega
  · obtain ⟨i,hi,rfl⟩:=mem_nth hc
    have h3:=h2 i hi
    simp only [celKAt,cellOk',spIn,Bool.and_eq_true,decide_eq_true_eq] at h3
    omega
  · obtain ⟨i,hi,rfl⟩:=mem_nth hc
    have h3:=hr2 i hi
    simp only [refAt,Bool.or_eq_true,Bool.and_eq_true,beq_iff_eq] at h3
    rcases h3 with h3 | h3
    · exact .inl (GDot.ext h3.1 h3.2)
    · right
      simp only [refGood,Bool.and_eq_true,decide_eq_true_eq] at h3
      rcases cellAt_cases s.cs (nth s.cs i).ref with h4 | ⟨j,hj,h4⟩
      · omega
      · rw [h4] at h3
        simp only [Int.toNat_natCast] at h3
        have h5:=idx_at (p:=dotIs (nth s.cs i).ref) h4
        simp only [dotIs,decide_eq_true_eq] at h5
        exact ⟨_,nth_mem hj,h5,h3.1.2,h3.2⟩
def kidP (o:ByteArray) (r:GDot) (x:GCell):Bool:=decide (x.obj = o) && decide (x.ref = r)
def kids (cs:List GCell) (o:ByteArray) (r:GDot):List GCell:=insN later (kidP o r) [] cs cs.length
def pre (cs:List GCell) (o:ByteArray):Nat → GDot → List GCell
  | 0,_ => []
  | n + 1,r => (kids cs o r).flatMap fun k => k :: pre cs o n k.dot
theorem kids_mem {cs:List GCell} {o:ByteArray} {r:GDot} {k:GCell} (h:k ∈ kids cs o r):k ∈ cs ∧ k.obj = o ∧ k.ref = r:=by
  rcases (filK_mem (Nat.le_refl _)).1 ((insN_perm _ _ _ _ _).mem_iff.1 h) with h | ⟨i,hi,rfl,hp⟩
  · cases h
  · simp only [kidP,Bool.and_eq_true,decide_eq_true_eq] at hp
    exact ⟨nth_mem hi,hp.1,hp.2⟩
theorem kids_len (cs:List GCell) (o:ByteArray) (r:GDot):(kids cs o r).length ≤ cs.length:=by
  have:=insN_len later (kidP o r) [] cs cs.length
  simpa [kids] using this
theorem insLater_sorted {cs:List GCell} (h:RowF cs) (p:GCell → Bool) (n:Nat) (hn:n ≤ cs.length):(insN later p [] cs n).Pairwise fun a b => later a b = true:=by
  refine insN_sorted later_Lt List.Pairwise.nil (fun i hi hp y hy h2 => later_tri (fun e => ?_) h2) n hn
  rcases hy with hy | ⟨j,hj,rfl,_⟩
  · cases hy
  · have:=pw_nth h.sorted hj hi
    simp only [cellLt] at this
    rw [e,before_irr] at this; cases this
def fuelOk (cs:List GCell) (n:Nat) (r:GDot):Prop:=(r = zeroDot ∧ 10001 ≤ n) ∨ ∃ p,p ∈ cs ∧ p.dot = r ∧ 10000 - p.time < n
theorem fuel_kid {cs:List GCell} (h:RowF cs) {o:ByteArray} {n:Nat} {r:GDot} (hf:fuelOk cs (n + 1) r) {k:GCell} (hk:k ∈ kids cs o r):fuelOk cs n k.dot:=by
  obtain ⟨k1,k2,k3⟩:=kids_mem hk
  refine .inr ⟨k,k1,rfl,?_⟩
  have t1:=h.tim k k1
  rcases hf with ⟨hz,hn⟩ | ⟨p,hp,e,ht⟩
  · omega
  · rcases h.ref k k1 with h2 | ⟨q,hq,e2,_,ht2⟩
    · exact absurd (e.trans (k3.symm.trans h2)) (h.nz p hp)
    · have:q = p:=h.uniq hq hp (by rw [e2,k3,e])
      subst this
      omega
theorem fuel0 {cs:List GCell} (h:RowF cs) {r:GDot}:¬ fuelOk cs 0 r:=by
  rintro (⟨_,h1⟩ | ⟨p,hp,_,ht⟩)
  · omega
  · have:=h.tim p hp; omega
theorem pre_stable {cs:List GCell} (h:RowF cs) {o:ByteArray}:∀ {n m:Nat} {r:GDot},fuelOk cs n r → n ≤ m → pre cs o m r = pre cs o n r
  | 0,m,r,hf,_ => absurd hf (fuel0 h)
  | n + 1,0,r,hf,hm => by omega
  | n + 1,m + 1,r,hf,hm => by
    simp only [pre]
    have key:∀ l:List GCell,(∀ k,k ∈ l → k ∈ kids cs o r) → (l.flatMap fun k => k :: pre cs o m k.dot) = l.flatMap fun k => k :: pre cs o n k.dot:=by
      intro l
      induction l with
      | nil => intro _; rfl
      | cons k l ih =>
        intro hl
        simp only [List.flatMap_cons]
        rw [ih (fun x hx => hl x (List.mem_cons_of_mem _ hx)),pre_stable h (fuel_kid h hf (hl k (by simp))) (by omega)]
    exact key _ fun _ hk => hk
def preO (cs:List GCell) (o:ByteArray) (r:GDot):List GCell:=pre cs o 10001 r
def preD (cs:List GCell) (o:ByteArray) (r:GDot):List GDot:=(preO cs o r).map (·.dot)
theorem fuel_top {cs:List GCell} (h:RowF cs) {r:GDot} (hr:r = zeroDot ∨ ∃ p,p ∈ cs ∧ p.dot = r):fuelOk cs 10001 r:=by
  rcases hr with hr | ⟨p,hp,e⟩
  · exact .inl ⟨hr,by omega⟩
  · exact .inr ⟨p,hp,e,by have:=h.tim p hp; omega⟩
theorem flatMap_map {α β γ:Type} (f:β → γ) (g:α → List β):∀ l:List α,(l.flatMap g).map f = l.flatMap fun a => (g a).map f
  | [] => rfl
  | a :: l => by simp [List.flatMap_cons,flatMap_map f g l]
theorem pre_eq {cs:List GCell} (h:RowF cs) {o:ByteArray} {N:Nat} {r:GDot} (hf:fuelOk cs (N + 1) r):pre cs o (N + 1) r = (kids cs o r).flatMap fun k => k :: pre cs o (N + 1) k.dot:=by
  have e:∀ l:List GCell,(∀ k,k ∈ l → k ∈ kids cs o r) → (l.flatMap fun k => k :: pre cs o N k.dot) = l.flatMap fun k => k :: pre cs o (N + 1) k.dot:=by
    intro l
    induction l with
    | nil => intro _; rfl
    | cons k l ih =>
      intro hl
      simp only [List.flatMap_cons]
      rw [ih (fun x hx => hl x (List.mem_cons_of_mem _ hx))]
      rw [pre_stable h (o:=o) (fuel_kid h hf (hl k (by simp))) (show N ≤ N + 1 by omega)]
  exact e _ fun _ hk => hk
theorem preO_eq {cs:List GCell} (h:RowF cs) {o:ByteArray} {r:GDot} (hr:r = zeroDot ∨ ∃ p,p ∈ cs ∧ p.dot = r):preO cs o r = (kids cs o r).flatMap fun k => k :: preO cs o k.dot :=
  pre_eq h (N:=10000) (fuel_top h hr)
theorem preD_eq {cs:List GCell} (h:RowF cs) {o:ByteArray} {r:GDot} (hr:r = zeroDot ∨ ∃ p,p ∈ cs ∧ p.dot = r):preD cs o r = ((kids cs o r).map (·.dot)).flatMap fun d => d :: preD cs o d:=by
  unfold preD
  rw [preO_eq h hr,flatMap_map,List.flatMap_map]
  rfl
structure Dfs (cs:List GCell) (o:ByteArray) (q:List GDot × List GDot):Prop where
  all:q.1 ++ q.2.flatMap (fun r => if r = zeroDot then preD cs o r else r :: preD cs o r) = preD cs o zeroDot
  nodup:(q.1 ++ q.2).Nodup
  from':∀ x,x ∈ q.1 ++ q.2 → x = zeroDot ∨ ∃ c,c ∈ cs ∧ c.dot = x ∧ (c.ref = zeroDot ∨ c.ref ∈ q.1)
  zero:zeroDot ∈ q.2 → q = ([],[zeroDot])
  zero1:zeroDot ∉ q.1
theorem Dfs.start (cs:List GCell) (o:ByteArray):Dfs cs o ([],[zeroDot]) where
  all:=by simp
  nodup:=by simp
  from':=by simp
  zero:=fun _ => rfl
  zero1:=by simp
def dfsStep (cs:List GCell) (o:ByteArray) (d:List GDot) (t:GDot) (rest:List GDot):List GDot × List GDot:=(if t = zeroDot then d else d ++ [t],(kids cs o t).map (·.dot) ++ rest)
theorem nodup_dots {cs:List GCell} (h:RowF cs) {l:List GCell} (hl:l.Nodup) (hm:∀ x,x ∈ l → x ∈ cs):(l.map (·.dot)).Nodup:=by
  induction l with
  | nil => simp
  | cons x l ih =>
    rw [List.nodup_cons] at hl
    rw [List.map_cons,List.nodup_cons]
    refine ⟨fun hx => ?_,ih hl.2 fun y hy => hm y (List.mem_cons_of_mem _ hy)⟩
    obtain ⟨y,hy,e⟩:=List.mem_map.1 hx
    have:=h.uniq (hm y (List.mem_cons_of_mem _ hy)) (hm x (by simp)) e
    exact hl.1 (this ▸ hy)
theorem kids_nodup {cs:List GCell} (h:RowF cs) (o:ByteArray) (r:GDot):(kids cs o r).Nodup:=by
  have hs:=insLater_sorted h (kidP o r) cs.length (Nat.le_refl _)
  rw [List.nodup_iff_pairwise_ne]
  refine hs.imp fun {a b} hab e => ?_
  have:=later_Lt.asym a b hab
  rw [← e] at this hab
  rw [hab] at this; cases this
theorem Dfs.step {cs:List GCell} (h:RowF cs) {o:ByteArray} {d:List GDot} {t:GDot} {rest:List GDot} (q:Dfs cs o (d,t :: rest)):Dfs cs o (dfsStep cs o d t rest):=by
  obtain ⟨q1,q2,q3,q4,q5⟩:=q
  simp only at q1 q2 q3 q4 q5
  have ht:t = zeroDot ∨ ∃ p,p ∈ cs ∧ p.dot = t:=by
    rcases q3 t (by simp) with h1 | ⟨c,hc,e,_⟩
    · exact .inl h1
    · exact .inr ⟨c,hc,e⟩
  have hkn:∀ k,k ∈ kids cs o t → k.dot ≠ zeroDot:=fun k hk => h.nz k (kids_mem hk).1
  have hfl:∀ l:List GCell,(∀ k,k ∈ l → k.dot ≠ zeroDot) → ((l.map (·.dot)).flatMap fun r => if r = zeroDot then preD cs o r else r :: preD cs o r) = (l.map (·.dot)).flatMap fun r => r :: preD cs o r:=by
    intro l
    induction l with
    | nil => intro _; rfl
    | cons k l ih =>
      intro hl
      simp only [List.map_cons,List.flatMap_cons]
      rw [ih fun x hx => hl x (List.mem_cons_of_mem _ hx),if_neg (hl k (by simp))]
  have hall:((kids cs o t).map (·.dot)).flatMap (fun r => if r = zeroDot then preD cs o r else r :: preD cs o r) = preD cs o t:=by
    rw [hfl _ hkn,← preD_eq h ht]
  have fresh:∀ x,x ∈ (kids cs o t).map (·.dot) → x ∉ d ∧ x ∉ t :: rest:=by
    intro x hx
    obtain ⟨k,hk,rfl⟩:=List.mem_map.1 hx
    obtain ⟨k1,k2,k3⟩:=kids_mem hk
    have key:k.dot ∉ d ++ t :: rest:=by
      intro hm
      rcases q3 _ hm with h1 | ⟨c,hc,e,hr⟩
      · exact h.nz k k1 h1
      · have:=h.uniq hc k1 e
        subst this
        rw [k3] at hr
        rcases hr with hr | hr
        · subst hr
          have:=q4 (by simp)
          simp only [Prod.mk.injEq,List.cons.injEq] at this
          obtain ⟨rfl,_,rfl⟩:=this
          simp at hm
          exact h.nz c hc hm
        · rw [List.nodup_append] at q2
          exact q2.2.2 t hr t (by simp) rfl
    rw [List.mem_append] at key
    exact ⟨fun hh => key (.inl hh),fun hh => key (.inr hh)⟩
  have hkd:=nodup_dots h (kids_nodup h o t) (fun x hx => (kids_mem hx).1)
  by_cases hz:t = zeroDot
  · subst hz
    have hq:=q4 (by simp)
    simp only [Prod.mk.injEq,List.cons.injEq] at hq
    obtain ⟨rfl,_,rfl⟩:=hq
    simp only [dfsStep,if_true]
    refine ⟨?_,?_,?_,?_,by simp⟩
    · simp only [List.append_nil,List.nil_append]; exact hall
    · simpa using hkd
    · intro x hx
      simp only [List.append_nil,List.nil_append] at hx
      obtain ⟨k,hk,rfl⟩:=List.mem_map.1 hx
      exact .inr ⟨k,(kids_mem hk).1,rfl,.inl (kids_mem hk).2.2⟩
    · intro hx
      simp only [List.append_nil] at hx
      obtain ⟨k,hk,e⟩:=List.mem_map.1 hx
      exact absurd e (hkn k hk)
  · simp only [dfsStep,if_neg hz]
    have hrz:zeroDot ∉ rest:=by
      intro hm
      have:=q4 (List.mem_cons_of_mem _ hm)
      simp only [Prod.mk.injEq,List.cons.injEq] at this
      exact hz this.2.1
    refine ⟨?_,?_,?_,?_,?_⟩
    · rw [← q1]
      simp only [List.flatMap_append,List.flatMap_cons,if_neg hz,List.append_assoc,List.cons_append,List.nil_append]
      rw [hall]
    · simp only
      rw [List.nodup_append] at q2 ⊢
      obtain ⟨n1,n2,n3⟩:=q2
      rw [List.nodup_cons] at n2
      refine ⟨?_,?_,?_⟩
      · rw [List.nodup_append]
        exact ⟨n1,by simp,fun a ha b hb => by simp only [List.mem_singleton] at hb; subst hb; exact n3 a ha _ (by simp)⟩
      · rw [List.nodup_append]
        exact ⟨hkd,n2.2,fun a ha b hb e => (fresh a ha).2 (by rw [e]; exact List.mem_cons_of_mem _ hb)⟩
      · intro a ha b hb e
        subst e
        rcases List.mem_append.1 ha with ha2 | ha2 <;> rcases List.mem_append.1 hb with hb2 | hb2
        · exact (fresh a hb2).1 ha2
        · exact n3 a ha2 a (List.mem_cons_of_mem _ hb2) rfl
        · exact (fresh _ hb2).2 (by simp only [List.mem_singleton] at ha2; rw [ha2]; simp)
        · exact n2.1 (by simp only [List.mem_singleton] at ha2; rw [← ha2]; exact hb2)
    · intro x hx
      simp only [List.mem_append,List.mem_singleton] at hx
      have old:x ∈ d ++ t :: rest → x = zeroDot ∨ ∃ c,c ∈ cs ∧ c.dot = x ∧ (c.ref = zeroDot ∨ c.ref ∈ d ++ [t]):=by
        intro hm
        rcases q3 x hm with h1 | ⟨c,hc,e,hr⟩
        · exact .inl h1
        · refine .inr ⟨c,hc,e,?_⟩
          rcases hr with hr | hr
          · exact .inl hr
          · exact .inr (by simp [hr])
      rcases hx with (hx | hx) | (hx | hx)
      · exact old (by simp [hx])
      · exact old (by simp [hx])
      · obtain ⟨k,hk,rfl⟩:=List.mem_map.1 hx
        exact .inr ⟨k,(kids_mem hk).1,rfl,.inr (by simp [(kids_mem hk).2.2])⟩
      · exact old (by simp [hx])
    · intro hx
      simp only [List.mem_append] at hx
      rcases hx with hx | hx
      · obtain ⟨k,hk,e⟩:=List.mem_map.1 hx
        exact absurd e (hkn k hk)
      · exact absurd hx hrz
    · simp only [List.mem_append,List.mem_singleton]
      rintro (hx | hx)
      · exact q5 hx
      · exact hz hx.symm
theorem nodup_le {α:Type} [DecidableEq α]:∀ {l m:List α},l.Nodup → (∀ x,x ∈ l → x ∈ m) → l.length ≤ m.length
  | [],_,_,_ => by simp
  | x :: l,m,hn,hm => by
    rw [List.nodup_cons] at hn
    have h1:x ∈ m:=hm x (by simp)
    have h2:=nodup_le (m:=m.erase x) hn.2 fun y hy => by
      have hne:y ≠ x:=fun e => hn.1 (by rw [← e]; exact hy)
      exact (List.mem_erase_of_ne hne).2 (hm y (List.mem_cons_of_mem _ hy))
    rw [List.length_erase_of_mem h1] at h2
    have:0 < m.length:=List.length_pos_of_mem h1
    simp only [List.length_cons]
    omega
theorem Dfs.len {cs:List GCell} {o:ByteArray} {q:List GDot × List GDot} (h:Dfs cs o q):q.1.length + q.2.length ≤ cs.length + 1:=by
  have:=nodup_le (m:=zeroDot :: cs.map (·.dot)) h.nodup fun x hx => by
    rcases h.from' x hx with h1 | ⟨c,hc,e,_⟩
    · simp [h1]
    · exact List.mem_cons_of_mem _ (e ▸ List.mem_map_of_mem hc)
  simpa using this
theorem Dfs.len1 {cs:List GCell} {o:ByteArray} {q:List GDot × List GDot} (h:Dfs cs o q):q.1.length ≤ cs.length:=by
  have h2:=h.nodup
  rw [List.nodup_append] at h2
  have:=nodup_le (m:=cs.map (·.dot)) h2.1 fun x hx => by
    rcases h.from' x (List.mem_append_left _ hx) with h1 | ⟨c,hc,e,_⟩
    · exact absurd hx (h1 ▸ h.zero1)
    · exact e ▸ List.mem_map_of_mem hc
  simpa using this
def dfsMu (cs:List GCell) (q:List GDot × List GDot):Nat:=(cs.length + 1 - q.1.length) + (if q.2 = [zeroDot] then 1 else 0)
theorem Dfs.less {cs:List GCell} (h:RowF cs) {o:ByteArray} {d:List GDot} {t:GDot} {rest:List GDot} (q:Dfs cs o (d,t :: rest)):dfsMu cs (dfsStep cs o d t rest) < dfsMu cs (d,t :: rest):=by
  have hs:=q.step h
  have l1:=q.len1
  have l2:=hs.len1
  by_cases hz:t = zeroDot
  · have hq:=q.zero (by simp [hz])
    simp only [Prod.mk.injEq] at hq
    obtain ⟨rfl,e⟩:=hq
    rw [e]
    simp only [List.cons.injEq] at e
    obtain ⟨rfl,rfl⟩:=e
    simp only [dfsMu,dfsStep,if_true]
    rw [if_neg]
    · omega
    · intro e
      simp only [List.append_nil] at e
      have:zeroDot ∈ (kids cs o zeroDot).map (·.dot):=by rw [e]; simp
      obtain ⟨k,hk,e2⟩:=List.mem_map.1 this
      exact h.nz k (kids_mem hk).1 e2
  · have hn:¬ (dfsStep cs o d t rest).2 = [zeroDot]:=by
      intro e
      have:=hs.zero (by rw [e]; simp)
      simp only [dfsStep,if_neg hz,Prod.mk.injEq] at this
      simp at this
    simp only [dfsMu,if_neg hn]
    simp only [dfsStep,if_neg hz,List.length_append,List.length_singleton] at l2 ⊢
    split <;> omega
theorem Dfs.end {cs:List GCell} (h:RowF cs) {o:ByteArray}:∀ {n:Nat} {q:List GDot × List GDot},Dfs cs o q → dfsMu cs q ≤ n → Dfs cs o (preD cs o zeroDot,[])
  | n,(d,[]),q,_ => by
    have:=q.all
    simp only [List.flatMap_nil,List.append_nil] at this
    rw [← this]; exact q
  | 0,(d,t :: rest),q,hn => by have:=q.less h; omega
  | n + 1,(d,t :: rest),q,hn => Dfs.end h (n:=n) (q.step h) (by have:=q.less h; omega)
theorem preD_len {cs:List GCell} (h:RowF cs) (o:ByteArray):(preD cs o zeroDot).length ≤ cs.length:=by
  have:=(Dfs.end h (Dfs.start cs o) (Nat.le_refl _)).len1
  simpa using this
theorem preO_len {cs:List GCell} (h:RowF cs) (o:ByteArray):(preO cs o zeroDot).length ≤ cs.length:=by
  have:=preD_len h o
  simpa [preD] using this
def row (s:GState) (o:ByteArray):List GCell:=if stateOk s = true then preO s.cs o zeroDot else []
def rowLive (s:GState) (o:ByteArray):List GCell:=(row s o).filter fun c => !c.gone
def placeIn (s:GState) (o:ByteArray) (i:Int):GDot × Bool:=if 0 ≤ i ∧ i < (rowLive s o).length then ((nth (rowLive s o) i.toNat).dot,true) else (zeroDot,false)
theorem row_len (s:GState) (o:ByteArray):(row s o).length ≤ 120:=by
  unfold row
  split
  · rename_i h
    have:=preO_len (rowF_of h) o
    have:=(rowF_of h).few
    omega
  · simp
end Am
namespace Am
open Go Go.Proofs Go.Sort
open Cel (cells)
set_option maxRecDepth 100000
@[simp] def h262:Hts:={ merge:=fun _ => false }
set_option maxHeartbeats 1000000 in
theorem f262_ok (x y:GCell):FnR Tryz.prog 262 [.agg [.str x.obj,.int .i64 x.dot.rep,.int .i64 x.dot.seq,.int .i64 x.time,.int .i64 x.ref.rep,.int .i64 x.ref.seq,.int .i64 x.val,.bool x.gone],.agg [.str y.obj,.int .i64 y.dot.rep,.int .i64 y.dot.seq,.int .i64 y.time,.int .i64 y.ref.rep,.int .i64 y.ref.seq,.int .i64 y.val,.bool y.gone]] (.v (.bool (later x y))):=by
  refine FnW.of_AW TryzT_ok 0 (fn:=Tryz.f262) (by kernel_rfl) rfl (by kernel_rfl) rfl rfl rfl ?_; refine AW_of h262 TryzT_ok (by kernel_rfl) ?_
  by_cases e1:x.time = y.time
  case neg =>
    have b1:(x.time != y.time) = true:=by simp [e1]
    simp -dsimp [b1]
    simp [later,e1]
  have b1:(x.time != y.time) = false:=by simp [e1]
  by_cases e2:x.dot.rep = y.dot.rep
  case neg =>
    have b2:(x.dot.rep != y.dot.rep) = true:=by simp [e2]
    have e2':¬ y.dot.rep = x.dot.rep:=fun h => e2 h.symm
    simp -dsimp [b1,b2]
    simp [later,e1,before,e2']
  have b2:(x.dot.rep != y.dot.rep) = false:=by simp [e2]
  simp -dsimp [b1,b2]
  simp [later,e1,before,e2]
def emit (cs:List GCell) (o:ByteArray) (n:Nat) (ks:List GCell) (j:Nat):List GCell:=(ks.take j).flatMap fun k => k :: pre cs o n k.dot
theorem emit_succ {cs:List GCell} {o:ByteArray} {n:Nat} {ks:List GCell} {j:Nat} (h:j < ks.length):emit cs o n ks (j + 1) = emit cs o n ks j ++ nth ks j :: pre cs o n (nth ks j).dot:=by
  unfold emit
  rw [take_snoc h,List.flatMap_append]
  simp [List.flatMap_cons]
theorem emit_all (cs:List GCell) (o:ByteArray) (n:Nat) (r:GDot):emit cs o n (kids cs o r) (kids cs o r).length = pre cs o (n + 1) r:=by
  unfold emit
  rw [List.take_length]
  rfl
theorem emit_len (cs:List GCell) (o:ByteArray) (n:Nat) (r:GDot) (j:Nat):(emit cs o n (kids cs o r) j).length ≤ (pre cs o (n + 1) r).length:=by
  have h:pre cs o (n + 1) r = emit cs o n (kids cs o r) j ++ ((kids cs o r).drop j).flatMap fun k => k :: pre cs o n k.dot:=by
    unfold emit
    rw [← List.flatMap_append,List.take_append_drop]
    rfl
  rw [h,List.length_append]
  omega
def outJ (cs:List GCell) (o:ByteArray) (n:Nat) (ks out:List GCell) (j:Nat):List GCell:=out ++ emit cs o n ks j
def kidsK (cs:List GCell) (o:ByteArray) (r:GDot) (i:Nat):List GCell:=insN later (kidP o r) [] cs i
theorem kidsK_len (cs:List GCell) (o:ByteArray) (r:GDot) (i:Nat):(kidsK cs o r i).length ≤ i:=by
  have:=insN_len later (kidP o r) [] cs i
  simpa [kidsK] using this
@[simp] def h252:Hts:={ merge:=fun _ => false,mergeF:=fun _ => false,lend:=fun f => if f = 252 then [.view,.view,.view,.lend] else [],dr:=fun id => if id = 12 then [{},{},{},{},{},{},{},{},{ cr:=true },{}] else if id = 23 then [{},{},{},{},{},{},{},{},{ wr:=[5504],cr:=true },{}] else [] }
set_option maxHeartbeats 8000000 in
theorem f252_ok (s:GState) (o:ByteArray) (hR:RowF s.cs):∀ (n:Nat) (r:GDot) (out:List GCell),fuelOk s.cs n r → out.length + (pre s.cs o n r).length ≤ 1000000 →
    FnW Tryz.prog 252 [.agg [.im s.know.length (flat s.know),.im s.tallies.length (flat s.tallies),.im s.lives.length (flat s.lives),.im s.cs.length (flat s.cs)],.v (.str o),.agg [.int .i64 r.rep,.int .i64 r.seq],.v (.ow 100 8 out.length (flat out))] (.v (.ow 100 8 (out ++ pre s.cs o n r).length (flat (out ++ pre s.cs o n r)))) [.any,.any,.any,.any]
  | 0,r,out,hf,_ => absurd hf (fuel0 hR)
  | n + 1,r,out,hf,hlen => by
    have few:=hR.few
    refine FnW.of_AW TryzT_ok 0 (fn:=Tryz.f252) (by kernel_rfl) rfl (by kernel_rfl) rfl rfl rfl ?_; refine AW_of h252 TryzT_ok (by kernel_rfl) ?_
    simp -dsimp
    refine AWh_loop (fun i:Nat => i ≤ s.cs.length) (fun i => mkE [(1,.c (.str o)),(3,.arr 640192),(4,.box 256 0),(6,.box 384 0),(9,.arr 900002),(10,.c (.int .i64 i))] [(640192,.arr 0 100 8 out.length (flat out)),(256,.box [.c (.im s.know.length (flat s.know)),.c (.im s.tallies.length (flat s.tallies)),.c (.im s.lives.length (flat s.lives)),.c (.im s.cs.length (flat s.cs))]),(384,.box [.c (.int .i64 r.rep),.c (.int .i64 r.seq)]),(900002,.arr 0 100 8 (kidsK s.cs o r i).length (flat (kidsK s.cs o r i)))]) (fun i => s.cs.length - i) 0 (Wk_to [1,3,4,6,9,10] [(640192,640192),(256,256),(384,384),(900002,1024)] rfl rfl (by simp [kidsK,insN])) (by simp) ?_
    rintro i hi
    have hkl:=kidsK_len s.cs o r i
    refine AW_of h252 TryzT_ok (by kernel_rfl) ?_
    rcases Nat.lt_or_ge i s.cs.length with h1 | h1
    · by_cases e1:(nth s.cs i).obj = o
      case neg =>
        have hn:kidsK s.cs o r (i + 1) = kidsK s.cs o r i:=by simp [kidsK,insN,kidP,e1]
        simp -dsimp [h1,ne_of_lt h1,e1]
        repeat (first|refine ⟨by omega,?_⟩|refine ⟨by simp [capMax];omega,?_⟩|refine ⟨⟨by omega,by omega⟩,?_⟩)
        exact Back_of (i + 1) [1,3,4,6,9,10] [(640192,640192),(256,256),(384,384),(900002,900002)] rfl rfl (by simp [hn]; rw [wrap64 (by omega) (by omega)]) (by omega) (by omega)
      by_cases e2:(nth s.cs i).ref = r
      case neg =>
        have hn:kidsK s.cs o r (i + 1) = kidsK s.cs o r i:=by simp [kidsK,insN,kidP,e2]
        have b2:((nth s.cs i).ref.rep == r.rep && (nth s.cs i).ref.seq == r.seq) = false:=by
          rw [Bool.eq_false_iff]; intro h; exact e2 (by simpa [GDot.ext_iff] using h)
        simp -dsimp [h1,ne_of_lt h1,e1,b2]
        repeat (first|refine ⟨by omega,?_⟩|refine ⟨by simp [capMax];omega,?_⟩|refine ⟨⟨by omega,by omega⟩,?_⟩)
        exact Back_of (i + 1) [1,3,4,6,9,10] [(640192,640192),(256,256),(384,384),(900002,900002)] rfl rfl (by simp [hn]; rw [wrap64 (by omega) (by omega)]) (by omega) (by omega)
      have e3:(nth s.cs i).ref.rep = r.rep:=by rw [e2]
      have e4:(nth s.cs i).ref.seq = r.seq:=by rw [e2]
      have hn:kidsK s.cs o r (i + 1) = insF later (nth s.cs i) (kidsK s.cs o r i):=by simp [kidsK,insN,kidP,e1,e2]
      simp -dsimp [h1,ne_of_lt h1,e1,e3,e4]
      repeat (first|refine ⟨by omega,?_⟩|refine ⟨by simp [capMax];omega,?_⟩|refine ⟨⟨by omega,by omega⟩,?_⟩)
      refine AWh_loop (fun j:Nat => j ≤ (kidsK s.cs o r i).length) (fun j => mkE [(1,.c (.str o)),(3,.arr 640192),(4,.box 256 0),(6,.box 384 0),(9,.arr 900002),(10,.c (.int .i64 i)),(11,.box 704 0),(12,.arr 900003),(13,.c (.bool (insK later (nth s.cs i) (kidsK s.cs o r i) j).2)),(14,.c (.int .i64 j))] [(640192,.arr 0 100 8 out.length (flat out)),(256,.box [.c (.im s.know.length (flat s.know)),.c (.im s.tallies.length (flat s.tallies)),.c (.im s.lives.length (flat s.lives)),.c (.im s.cs.length (flat s.cs))]),(384,.box [.c (.int .i64 r.rep),.c (.int .i64 r.seq)]),(900002,.arr 0 100 8 (kidsK s.cs o r i).length (flat (kidsK s.cs o r i))),(704,.box [.c (.str ((nth s.cs i)).obj),.c (.int .i64 ((nth s.cs i)).dot.rep),.c (.int .i64 ((nth s.cs i)).dot.seq),.c (.int .i64 ((nth s.cs i)).time),.c (.int .i64 ((nth s.cs i)).ref.rep),.c (.int .i64 ((nth s.cs i)).ref.seq),.c (.int .i64 ((nth s.cs i)).val),.c (.bool ((nth s.cs i)).gone)]),(900003,.arr 0 100 8 (insK later (nth s.cs i) (kidsK s.cs o r i) j).1.length (flat (insK later (nth s.cs i) (kidsK s.cs o r i) j).1))]) (fun j => (kidsK s.cs o r i).length - j) 0 (Wk_to [1,3,4,6,9,10,11,12,13,14] [(640192,640192),(256,256),(384,384),(900002,900002),(704,704),(900003,2496)] rfl rfl (by simp [insK,e1,e2,e3,e4])) (by simp) ?_
      rintro j hj
      have hil:=insK_len (lt:=later) (nth s.cs i) (kidsK s.cs o r i) j
      have hil':(insK later (nth s.cs i) (kidsK s.cs o r i) j).1.length ≤ j + 1:=by split at hil <;> omega
      refine AW_of h252 TryzT_ok (by kernel_rfl) ?_
      rcases Nat.lt_or_ge j (kidsK s.cs o r i).length with p1 | p1
      · cases g:(insK later (nth s.cs i) (kidsK s.cs o r i) j).2
        · simp -dsimp [p1,ne_of_lt p1]
          repeat (first|refine ⟨by omega,?_⟩|refine ⟨by simp [capMax];omega,?_⟩|refine ⟨⟨by omega,by omega⟩,?_⟩)
          refine ACallK_of (f262_ok _ _) ?_
          cases g2:later (nth s.cs i) (nth (kidsK s.cs o r i) j)
          · simp -dsimp [p1,ne_of_lt p1]
            repeat (first|refine ⟨by omega,?_⟩|refine ⟨by simp [capMax];omega,?_⟩|refine ⟨⟨by omega,by omega⟩,?_⟩)
            exact Back_of (j + 1) [1,3,4,6,9,10,11,12,13,14] [(640192,640192),(256,256),(384,384),(900002,900002),(704,704),(900003,4224)] rfl rfl (by simp [insK,g,g2]; rw [wrap64 (by omega) (by omega)]) (by omega) (by omega)
          · simp -dsimp [p1,ne_of_lt p1]
            repeat (first|refine ⟨by omega,?_⟩|refine ⟨by simp [capMax];omega,?_⟩|refine ⟨⟨by omega,by omega⟩,?_⟩)
            exact Back_of (j + 1) [1,3,4,6,9,10,11,12,13,14] [(640192,640192),(256,256),(384,384),(900002,900002),(704,704),(900003,4224)] rfl rfl (by simp [insK,g,g2]; rw [wrap64 (by omega) (by omega)]) (by omega) (by omega)
        · simp -dsimp [p1,ne_of_lt p1]
          repeat (first|refine ⟨by omega,?_⟩|refine ⟨by simp [capMax];omega,?_⟩|refine ⟨⟨by omega,by omega⟩,?_⟩)
          exact Back_of (j + 1) [1,3,4,6,9,10,11,12,13,14] [(640192,640192),(256,256),(384,384),(900002,900002),(704,704),(900003,4224)] rfl rfl (by simp [insK,g]; rw [wrap64 (by omega) (by omega)]) (by omega) (by omega)
      · obtain rfl:j = (kidsK s.cs o r i).length:=by omega
        cases g:(insK later (nth s.cs i) (kidsK s.cs o r i) (kidsK s.cs o r i).length).2
        · have hn2:kidsK s.cs o r (i + 1) = (insK later (nth s.cs i) (kidsK s.cs o r i) (kidsK s.cs o r i).length).1 ++ [nth s.cs i]:=by rw [hn]; simp [insF,g]
          simp -dsimp [g]
          repeat (first|refine ⟨by omega,?_⟩|refine ⟨by simp [capMax];omega,?_⟩|refine ⟨⟨by omega,by omega⟩,?_⟩)
          exact Back_of (i + 1) [1,3,4,6,9,10] [(640192,640192),(256,256),(384,384),(900002,4608)] rfl rfl (by simp [hn2]; rw [wrap64 (by omega) (by omega)]) (by omega) (by omega)
        · have hn2:kidsK s.cs o r (i + 1) = (insK later (nth s.cs i) (kidsK s.cs o r i) (kidsK s.cs o r i).length).1:=by rw [hn]; simp [insF,g]
          simp -dsimp [g]
          repeat (first|refine ⟨by omega,?_⟩|refine ⟨by simp [capMax];omega,?_⟩|refine ⟨⟨by omega,by omega⟩,?_⟩)
          exact Back_of (i + 1) [1,3,4,6,9,10] [(640192,640192),(256,256),(384,384),(900002,900003)] rfl rfl (by simp [hn2]; rw [wrap64 (by omega) (by omega)]) (by omega) (by omega)
    obtain rfl:i = s.cs.length:=by omega
    clear hi h1
    simp -dsimp
    refine AWh_loop (fun j:Nat => j ≤ (kids s.cs o r).length) (fun j => mkE [(1,.c (.str o)),(3,.arr 900001),(4,.box 256 0),(9,.arr 900002),(15,.c (.int .i64 j))] [(900001,.arr 0 100 8 (outJ s.cs o n (kids s.cs o r) out j).length (flat (outJ s.cs o n (kids s.cs o r) out j))),(256,.box [.c (.im s.know.length (flat s.know)),.c (.im s.tallies.length (flat s.tallies)),.c (.im s.lives.length (flat s.lives)),.c (.im s.cs.length (flat s.cs))]),(900002,.arr 0 100 8 (kids s.cs o r).length (flat (kids s.cs o r)))]) (fun j => (kids s.cs o r).length - j) 0 (Wk_to [1,3,4,9,15] [(900001,640192),(256,256),(900002,900002)] rfl rfl (by simp [outJ,emit,kidsK,kids])) (by simp) ?_
    rintro j hj
    have hel:=emit_len s.cs o n r j
    refine AW_of h252 TryzT_ok (by kernel_rfl) ?_
    rcases Nat.lt_or_ge j (kids s.cs o r).length with h1 | h1
    · have hs:outJ s.cs o n (kids s.cs o r) out (j + 1) = outJ s.cs o n (kids s.cs o r) out j ++ [nth (kids s.cs o r) j] ++ pre s.cs o n (nth (kids s.cs o r) j).dot:=by
        unfold outJ
        rw [emit_succ h1]; simp
      have hel2:=emit_len s.cs o n r (j + 1)
      have hkn:=kids_len s.cs o r
      have hel3:(outJ s.cs o n (kids s.cs o r) out (j + 1)).length = out.length + (emit s.cs o n (kids s.cs o r) (j + 1)).length:=by simp [outJ]
      have hel4:=congrArg List.length hs
      simp only [List.length_append,List.length_singleton] at hel4
      simp -dsimp [h1,ne_of_lt h1]
      repeat (first|refine ⟨by omega,?_⟩|refine ⟨by simp [capMax];omega,?_⟩|refine ⟨⟨by omega,by omega⟩,?_⟩)
      have hcall:=f252_ok s o hR n (nth (kids s.cs o r) j).dot (outJ s.cs o n (kids s.cs o r) out j ++ [nth (kids s.cs o r) j]) (fuel_kid hR hf (nth_mem h1)) (by simp; omega)
      rw [← hs] at hcall
      simp only [List.length_append,List.length_singleton] at hcall
      refine ACallW_go ?_
      refine ACallC_go (fun us => hcall) ?_
      simp -dsimp
      exact Back_of (j + 1) [1,3,4,9,15] [(900001,6080),(256,256),(900002,900002)] rfl rfl (by simp; rw [wrap64 (by omega) (by omega)]) (by omega) (by omega)
    · obtain rfl:j = (kids s.cs o r).length:=by omega
      have hfin:outJ s.cs o n (kids s.cs o r) out (kids s.cs o r).length = out ++ pre s.cs o (n + 1) r:=by unfold outJ; rw [emit_all]
      simp -dsimp
      rw [hfin]
      exact ⟨by simp,rfl⟩
end Am
namespace Am
open Go Go.Proofs Go.Sort
open Cel (cells)
set_option maxRecDepth 100000
theorem zero_fuel (cs:List GCell):fuelOk cs 10001 zeroDot:=.inl ⟨rfl,by omega⟩
@[simp] def h224:Hts:={ lend:=fun f => if f = 252 then [.view,.view,.view,.lend] else [] }
theorem f224_ok (s:GState) (o:ByteArray) (hR:RowF s.cs):FnR Tryz.prog 224 [.agg [.im s.know.length (flat s.know),.im s.tallies.length (flat s.tallies),.im s.lives.length (flat s.lives),.im s.cs.length (flat s.cs)],.v (.str o)] (.v (.ow 100 8 (preO s.cs o zeroDot).length (flat (preO s.cs o zeroDot)))):=by
  have few:=hR.few
  have hl:=preO_len hR o
  have hcall:=f252_ok s o hR 10001 zeroDot [] (zero_fuel _) (by simp only [List.length_nil]; unfold preO at hl; omega)
  simp only [List.length_nil,List.nil_append,zeroDot,flat_nil] at hcall
  refine FnW.of_AW TryzT_ok 0 (fn:=Tryz.f224) (by kernel_rfl) rfl (by kernel_rfl) rfl rfl rfl ?_; refine AW_of h224 TryzT_ok (by kernel_rfl) ?_
  simp -dsimp
  refine ACallW_go ?_
  refine ACallC_go (fun us => hcall) ?_
  simp -dsimp
  exact ⟨rfl,rfl⟩
end Am
namespace Am
open Go Go.Proofs
open Cel (cells)
set_option maxRecDepth 100000
def liveK (s:GState) (o:ByteArray) (i:Nat):List GCell:=filK (fun c => !c.gone) [] (row s o) i
theorem liveK_all (s:GState) (o:ByteArray):liveK s o (row s o).length = rowLive s o:=by
  unfold liveK rowLive
  rw [filK_filter _ _ _ (Nat.le_refl _),List.take_length]
theorem liveK_len (s:GState) (o:ByteArray) (i:Nat):(liveK s o i).length ≤ i:=by
  have:=filK_len (fun c:GCell => !c.gone) [] (row s o) i
  simpa [liveK] using this
theorem liveK_more (s:GState) (o:ByteArray) (k:Nat):∀ d:Nat,∃ t,liveK s o (k + d) = liveK s o k ++ t
  | 0 => ⟨[],by simp⟩
  | d + 1 => by
    obtain ⟨t,e⟩:=liveK_more s o k d
    rw [← Nat.add_assoc]
    unfold liveK at e ⊢
    simp only [filK]
    split
    · exact ⟨t ++ [nth (row s o) (k + d)],by rw [e]; simp⟩
    · exact ⟨t,e⟩
theorem liveK_nth {s:GState} {o:ByteArray} {j:Nat} (h:j < (row s o).length) (g:(nth (row s o) j).gone = false):(liveK s o j).length < (rowLive s o).length ∧ nth (rowLive s o) (liveK s o j).length = nth (row s o) j:=by
  obtain ⟨t,e⟩:=liveK_more s o (j + 1) ((row s o).length - (j + 1))
  rw [show j + 1 + ((row s o).length - (j + 1)) = (row s o).length by omega,liveK_all] at e
  have hn:liveK s o (j + 1) = liveK s o j ++ [nth (row s o) j]:=by simp [liveK,filK,g]
  rw [hn] at e
  refine ⟨by rw [e]; simp,?_⟩
  rw [e,nth_eq (by simp)]
  simp
@[simp] def h200:Hts:={ merge:=fun _ => false,mergeF:=fun _ => false }
set_option maxHeartbeats 2000000 in
theorem f200_ok (s:GState) (o:ByteArray) (i:Int) (hs:s.Ok) (hi1:i ≤ 9223372036854775807):FnR Tryz.prog 200 [.agg [.im s.know.length (flat s.know),.im s.tallies.length (flat s.tallies),.im s.lives.length (flat s.lives),.im s.cs.length (flat s.cs)],.v (.str o),.v (.int .i64 i)] (.tup [.agg [.int .i64 ((placeIn s o i).1).rep,.int .i64 ((placeIn s o i).1).seq],.v (.bool ((placeIn s o i).2))]):=by
  refine FnW.of_AW TryzT_ok 0 (fn:=Tryz.f200) (by kernel_rfl) rfl (by kernel_rfl) rfl rfl rfl ?_; refine AW_of h200 TryzT_ok (by kernel_rfl) ?_
  simp -dsimp
  refine ACallK_of (f17_ok _ hs) ?_
  rw [stateOkS_eq]
  cases ks:stateOk s
  · simp -dsimp
    have:rowLive s o = []:=by simp [rowLive,row,ks]
    have hno:¬ (0 ≤ i ∧ i < (rowLive s o).length):=by rw [this]; simp
    simp [placeIn,hno,zeroDot]
  rcases Int.lt_or_le i 0 with h0 | h0
  · simp -dsimp [h0]
    have:¬ (0 ≤ i ∧ i < (rowLive s o).length):=by omega
    simp [placeIn,this,zeroDot]
  have h0':¬ i < 0:=by omega
  have hR:=rowF_of ks
  have hrow:preO s.cs o zeroDot = row s o:=by simp [row,ks]
  have hrl:=row_len s o
  simp -dsimp [h0']
  refine ACallK_of (f224_ok _ _ hR) ?_
  rw [hrow]
  simp -dsimp
  refine AWh_loop (fun j:Nat => j ≤ (row s o).length ∧ (liveK s o j).length ≤ i) (fun j => mkE [(2,.c (.int .i64 (i - (liveK s o j).length))),(6,.box 384 0),(8,.arr 900001),(9,.c (.int .i64 j))] [(384,.box [.c (.int .i64 0),.c (.int .i64 0)]),(900001,.arr 0 100 8 (row s o).length (flat (row s o)))]) (fun j => (row s o).length - j) 0 (Wk_to [2,6,8,9] [(384,384),(900001,1280)] rfl rfl (by simp [liveK,filK])) (by simp [liveK,filK,h0]) ?_
  rintro j ⟨hj,hji⟩
  have hll:=liveK_len s o j
  refine AW_of h200 TryzT_ok (by kernel_rfl) ?_
  rcases Nat.lt_or_ge j (row s o).length with h1 | h1
  · cases g:(nth (row s o) j).gone
    · have hn:liveK s o (j + 1) = liveK s o j ++ [nth (row s o) j]:=by simp [liveK,filK,g]
      by_cases e:i - (liveK s o j).length = 0
      · simp -dsimp [h1,ne_of_lt h1,g,e]
        repeat (first|refine ⟨by omega,?_⟩|refine ⟨by simp [capMax];omega,?_⟩|refine ⟨⟨by omega,by omega⟩,?_⟩)
        obtain ⟨q1,q2⟩:=liveK_nth h1 g
        have hin:0 ≤ i ∧ i < (rowLive s o).length:=by omega
        have hto:i.toNat = (liveK s o j).length:=by omega
        simp [placeIn,hin,hto,q2]
      · have e':(i - ((liveK s o j).length:Int) == 0) = false:=by simp [e]
        simp -dsimp [h1,ne_of_lt h1,g,e,e']
        repeat (first|refine ⟨by omega,?_⟩|refine ⟨by simp [capMax];omega,?_⟩|refine ⟨⟨by omega,by omega⟩,?_⟩)
        have w:IntKind.i64.wrap (i - ((liveK s o j).length:Int) - 1) = i - ((liveK s o j).length + 1):=by rw [wrap64 (by omega) (by omega)]; omega
        exact Back_of (j + 1) [2,6,8,9] [(384,384),(900001,900001)] rfl rfl (by simp [hn,w]; rw [wrap64 (by omega) (by omega)]) ⟨by omega,by rw [hn]; simp; omega⟩ (by omega)
    · have hn:liveK s o (j + 1) = liveK s o j:=by simp [liveK,filK,g]
      simp -dsimp [h1,ne_of_lt h1,g]
      repeat (first|refine ⟨by omega,?_⟩|refine ⟨by simp [capMax];omega,?_⟩|refine ⟨⟨by omega,by omega⟩,?_⟩)
      exact Back_of (j + 1) [2,6,8,9] [(384,384),(900001,900001)] rfl rfl (by simp [hn]; rw [wrap64 (by omega) (by omega)]) ⟨by omega,by rw [hn]; exact hji⟩ (by omega)
  · obtain rfl:j = (row s o).length:=by omega
    rw [liveK_all] at hji
    have hno:¬ (0 ≤ i ∧ i < (rowLive s o).length):=by omega
    simp -dsimp
    simp [placeIn,hno,zeroDot]
end Am
namespace Am
open Go Go.Proofs
open Cel (cells)
set_option maxRecDepth 100000
def editOk (e:GEdit):Bool:=plain e.kind e.val e.obj e.key && ((e.place == 0) || (decide (0 < e.place) && (e.kind == 6 || e.kind == 7)))
@[simp] def h199:Hts:={ mergeF:=fun _ => true }
set_option maxHeartbeats 1000000 in
theorem f199_ok (e:GEdit) (h1:e.obj.size ≤ 9223372036854775807) (h2:e.key.size ≤ 9223372036854775807):FnR Tryz.prog 199 [.agg [.int .i64 e.kind,.str e.obj,.str e.key,.int .i64 e.val,.int .i64 e.place]] (.v (.bool (editOk e))):=by
  refine FnW.of_AW TryzT_ok 0 (fn:=Tryz.f199) (by kernel_rfl) rfl (by kernel_rfl) rfl rfl rfl ?_; refine AW_of h199 TryzT_ok (by kernel_rfl) ?_
  simp -dsimp
  refine ACallK_of (f223_ok _ _ _ _ h1 h2) ?_
  simp -dsimp
  refine ⟨by grind,?_⟩
  unfold editOk
  cases plain e.kind e.val e.obj e.key
  · simp
  rw [Bool.eq_iff_iff]
  simp
  omega
def actPlace (s:GState) (e:GEdit):GDot × Bool:=if e.kind = 6 ∧ 0 < e.place then placeIn s e.obj (e.place - 1) else if e.kind = 7 then placeIn s e.obj e.place else (zeroDot,true)
def actRaw (s:GState) (rep time:Int) (e:GEdit):GAct:=⟨⟨rep,nth s.know rep.toNat + 1⟩,time,s.know,e.kind,e.obj,e.key,e.val,(actPlace s e).1⟩
def actPre (s:GState) (rep time:Int) (e:GEdit):Bool:=stateOk s && editOk e && spIn rep 0 2 && spIn time 1 10000 && decide (nth s.know rep.toNat < 1000)
def actOf (s:GState) (rep time:Int) (e:GEdit):GAct × Int :=
  if actPre s rep time e = false then (zeroAct,3) else if (actPlace s e).2 = false then (zeroAct,5) else if actOk (actRaw s rep time e) = false then (zeroAct,3) else (actRaw s rep time e,0)
theorem knowOk_nth {k:List Int} (h:knowOk k = true) {i:Nat} (hi:i < k.length):0 ≤ nth k i ∧ nth k i ≤ 1000:=by
  simp only [knowOk,Bool.and_eq_true,decide_eq_true_eq] at h
  exact h.2 i hi
@[simp] def h175:Hts:={ merge:=fun _ => false,mergeF:=fun _ => false,dr:=fun id => if id = 3 then [{ mn:=[2560],mb:=[40,43,10] },{ mn:=[2560],mb:=[40,43,10] },{ mn:=[2560],mb:=[40,43,10] },{ mn:=[2560],mb:=[40,43,10] },{ mn:=[2560],mb:=[40,43,10] },{ mn:=[2560],mb:=[40,43,10] },{ mn:=[2560],mb:=[40,43,10] },{ mn:=[2560],mb:=[40,43,10] },{ mn:=[2560],mb:=[40,43,10] },{ cr:=true,mb:=[10] },{ mb:=[40,10] },{ mb:=[40,10] },{ wr:=[2560],cr:=true,mb:=[10] },{ mn:=[2560],mb:=[40,43,10] },{ mn:=[2560],mb:=[40,43,10] },{ mn:=[2560],mb:=[40,43,10] },{ mn:=[2560],mb:=[40,43,10] },{ mn:=[2560],mb:=[40,43,10] },{ mn:=[2560],mb:=[40,43,10] },{ mn:=[2560],mb:=[40,43,10] },{ mn:=[2560],mb:=[40,43,10] },{ mb:=[10] },{ mn:=[2560],cr:=true,mb:=[40,43] },{ wr:=[640] }] else [] }
set_option maxHeartbeats 8000000 in
theorem f175_ok (s:GState) (rep time:Int) (e:GEdit) (hs:s.Ok) (h1:e.obj.size ≤ 1073741824) (h2:e.key.size ≤ 1073741824) (hp1:e.place ≤ 9223372036854775807):FnR Tryz.prog 175 [.agg [.im s.know.length (flat s.know),.im s.tallies.length (flat s.tallies),.im s.lives.length (flat s.lives),.im s.cs.length (flat s.cs)],.v (.int .i64 rep),.v (.int .i64 time),.agg [.int .i64 e.kind,.str e.obj,.str e.key,.int .i64 e.val,.int .i64 e.place]] (.tup [.agg [.int .i64 ((actOf s rep time e).1).dot.rep,.int .i64 ((actOf s rep time e).1).dot.seq,.int .i64 ((actOf s rep time e).1).time,.ow 3 1 ((actOf s rep time e).1).knew.length (flat ((actOf s rep time e).1).knew),.int .i64 ((actOf s rep time e).1).kind,.str ((actOf s rep time e).1).obj,.str ((actOf s rep time e).1).key,.int .i64 ((actOf s rep time e).1).val,.int .i64 ((actOf s rep time e).1).ref.rep,.int .i64 ((actOf s rep time e).1).ref.seq],.v (.int .i64 ((actOf s rep time e).2))]):=by
  obtain ⟨ek,eo,eky,ev,ep⟩:=e
  simp only at h1 h2 hp1
  have hs2:=hs
  simp only [GState.Ok] at hs2
  refine FnW.of_AW TryzT_ok 0 (fn:=Tryz.f175) (by kernel_rfl) rfl (by kernel_rfl) rfl rfl rfl ?_; refine AW_of h175 TryzT_ok (by kernel_rfl) ?_
  simp -dsimp
  refine ACallK_of (f17_ok _ hs) ?_
  rw [stateOkS_eq]
  cases ks:stateOk s
  · simp -dsimp
    have hno:actPre s rep time ⟨ek,eo,eky,ev,ep⟩ = false:=by simp [actPre,ks]
    simp [actOf,hno,zeroAct]
  simp -dsimp
  refine ACallK_of (f199_ok ⟨ek,eo,eky,ev,ep⟩ (by simp only; omega) (by simp only; omega)) ?_
  cases ke:editOk ⟨ek,eo,eky,ev,ep⟩
  · simp -dsimp
    have hno:actPre s rep time ⟨ek,eo,eky,ev,ep⟩ = false:=by simp [actPre,ke]
    simp [actOf,hno,zeroAct]
  simp -dsimp
  refine ACallK_of (f86_ok _ _ _) ?_
  cases kr:spIn rep 0 2
  · simp -dsimp
    have hno:actPre s rep time ⟨ek,eo,eky,ev,ep⟩ = false:=by simp [actPre,kr]
    simp [actOf,hno,zeroAct]
  simp -dsimp
  refine ACallK_of (f86_ok _ _ _) ?_
  cases kt:spIn time 1 10000
  · simp -dsimp
    have hno:actPre s rep time ⟨ek,eo,eky,ev,ep⟩ = false:=by simp [actPre,kt]
    simp [actOf,hno,zeroAct]
  have k3:=stateOk_know ks
  have kr2:=kr
  simp only [spIn,Bool.and_eq_true,decide_eq_true_eq] at kr2
  have q1:rep.toNat < s.know.length:=by omega
  have kok:knowOk s.know = true:=by simp only [stateOk,Bool.and_eq_true] at ks; exact ks.1.1.1.1
  have kn:=knowOk_nth kok q1
  have he0:0 ≤ ep:=by
    have ke2:=ke
    simp only [editOk,Bool.and_eq_true,Bool.or_eq_true,beq_iff_eq,decide_eq_true_eq] at ke2
    omega
  have wk:IntKind.i64.wrap (nth s.know rep.toNat + 1) = nth s.know rep.toNat + 1:=wrap64 (by omega) (by omega)
  have wp:IntKind.i64.wrap (ep - 1) = ep - 1:=wrap64 (by omega) (by omega)
  have hraw:(actRaw s rep time ⟨ek,eo,eky,ev,ep⟩).Ok:=by simp only [GAct.Ok]; exact ⟨hs2.1,h1,h2⟩
  by_cases k6:ek = 6
  · subst k6
    by_cases k0:0 < ep
    · have hpl:actPlace s ⟨6,eo,eky,ev,ep⟩ = placeIn s eo (ep - 1):=by simp [actPlace,k0]
      have er:actRaw s rep time ⟨6,eo,eky,ev,ep⟩ = ⟨⟨rep,nth s.know rep.toNat + 1⟩,time,s.know,6,eo,eky,ev,(placeIn s eo (ep - 1)).1⟩:=by simp [actRaw,hpl,zeroDot]
      rw [er] at hraw
      simp -dsimp [q1,ne_of_lt q1,wk,wp,k0]
      repeat (first|refine ⟨by omega,?_⟩|refine ⟨by simp [capMax];omega,?_⟩|refine ⟨⟨by omega,by omega⟩,?_⟩)
      refine ACallK_of (f200_ok s eo (ep - 1) hs (by omega)) ?_
      simp -dsimp [wk,k0]
      refine ACallK_of (f129_ok ⟨rep,nth s.know rep.toNat + 1⟩) ?_
      by_cases kl:1000 ≤ nth s.know rep.toNat
      · have hno:actPre s rep time ⟨6,eo,eky,ev,ep⟩ = false:=by simp [actPre]; intros; omega
        have hd:dotOk ⟨rep,nth s.know rep.toNat + 1⟩ = false:=by simp [dotOk,spIn]; intros; omega
        rw [hd]
        simp -dsimp
        simp [actOf,hno,zeroAct]
      have hyes:actPre s rep time ⟨6,eo,eky,ev,ep⟩ = true:=by simp [actPre,ks,ke,kr,kt]; omega
      have hd:dotOk ⟨rep,nth s.know rep.toNat + 1⟩ = true:=by simp [dotOk,spIn]; omega
      rw [hd]
      cases g1:(placeIn s eo (ep - 1)).2
      · simp -dsimp [wk]
        simp [actOf,hyes,hpl,g1,zeroAct]
      have g1p:(actPlace s ⟨6,eo,eky,ev,ep⟩).2 = true:=by rw [hpl]; exact g1
      simp -dsimp [wk]
      refine ACallK_of (f201_ok ⟨⟨rep,nth s.know rep.toNat + 1⟩,time,s.know,6,eo,eky,ev,(placeIn s eo (ep - 1)).1⟩ hraw) ?_
      cases g2:actOk ⟨⟨rep,nth s.know rep.toNat + 1⟩,time,s.know,6,eo,eky,ev,(placeIn s eo (ep - 1)).1⟩
      · simp -dsimp
        simp [actOf,hyes,g1p,er,g2,zeroAct]
      · simp -dsimp
        simp [actOf,hyes,g1p,er,g2]
    · have hpl:actPlace s ⟨6,eo,eky,ev,ep⟩ = (zeroDot,true):=by simp [actPlace,k0]
      have er:actRaw s rep time ⟨6,eo,eky,ev,ep⟩ = ⟨⟨rep,nth s.know rep.toNat + 1⟩,time,s.know,6,eo,eky,ev,⟨0,0⟩⟩:=by simp [actRaw,hpl,zeroDot]
      rw [er] at hraw
      simp -dsimp [q1,ne_of_lt q1,wk,wp,k0]
      repeat (first|refine ⟨by omega,?_⟩|refine ⟨by simp [capMax];omega,?_⟩|refine ⟨⟨by omega,by omega⟩,?_⟩)
      refine ACallK_of (f129_ok ⟨rep,nth s.know rep.toNat + 1⟩) ?_
      by_cases kl:1000 ≤ nth s.know rep.toNat
      · have hno:actPre s rep time ⟨6,eo,eky,ev,ep⟩ = false:=by simp [actPre]; intros; omega
        have hd:dotOk ⟨rep,nth s.know rep.toNat + 1⟩ = false:=by simp [dotOk,spIn]; intros; omega
        rw [hd]
        simp -dsimp
        simp [actOf,hno,zeroAct]
      have hyes:actPre s rep time ⟨6,eo,eky,ev,ep⟩ = true:=by simp [actPre,ks,ke,kr,kt]; omega
      have hd:dotOk ⟨rep,nth s.know rep.toNat + 1⟩ = true:=by simp [dotOk,spIn]; omega
      rw [hd]
      have g1p:(actPlace s ⟨6,eo,eky,ev,ep⟩).2 = true:=by rw [hpl]
      simp -dsimp [wk]
      refine ACallK_of (f201_ok ⟨⟨rep,nth s.know rep.toNat + 1⟩,time,s.know,6,eo,eky,ev,⟨0,0⟩⟩ hraw) ?_
      cases g2:actOk ⟨⟨rep,nth s.know rep.toNat + 1⟩,time,s.know,6,eo,eky,ev,⟨0,0⟩⟩
      · simp -dsimp
        simp [actOf,hyes,g1p,er,g2,zeroAct]
      · simp -dsimp
        simp [actOf,hyes,g1p,er,g2]
  · have b6:(ek == 6) = false:=by simp [k6]
    by_cases k7:ek = 7
    · subst k7
      have hpl:actPlace s ⟨7,eo,eky,ev,ep⟩ = placeIn s eo ep:=by simp [actPlace]
      have er:actRaw s rep time ⟨7,eo,eky,ev,ep⟩ = ⟨⟨rep,nth s.know rep.toNat + 1⟩,time,s.know,7,eo,eky,ev,(placeIn s eo (ep)).1⟩:=by simp [actRaw,hpl,zeroDot]
      rw [er] at hraw
      simp -dsimp [q1,ne_of_lt q1,wk,wp]
      repeat (first|refine ⟨by omega,?_⟩|refine ⟨by simp [capMax];omega,?_⟩|refine ⟨⟨by omega,by omega⟩,?_⟩)
      refine ACallK_of (f200_ok s eo (ep) hs (by omega)) ?_
      simp -dsimp [wk]
      refine ACallK_of (f129_ok ⟨rep,nth s.know rep.toNat + 1⟩) ?_
      by_cases kl:1000 ≤ nth s.know rep.toNat
      · have hno:actPre s rep time ⟨7,eo,eky,ev,ep⟩ = false:=by simp [actPre]; intros; omega
        have hd:dotOk ⟨rep,nth s.know rep.toNat + 1⟩ = false:=by simp [dotOk,spIn]; intros; omega
        rw [hd]
        simp -dsimp
        simp [actOf,hno,zeroAct]
      have hyes:actPre s rep time ⟨7,eo,eky,ev,ep⟩ = true:=by simp [actPre,ks,ke,kr,kt]; omega
      have hd:dotOk ⟨rep,nth s.know rep.toNat + 1⟩ = true:=by simp [dotOk,spIn]; omega
      rw [hd]
      cases g1:(placeIn s eo (ep)).2
      · simp -dsimp [wk]
        simp [actOf,hyes,hpl,g1,zeroAct]
      have g1p:(actPlace s ⟨7,eo,eky,ev,ep⟩).2 = true:=by rw [hpl]; exact g1
      simp -dsimp [wk]
      refine ACallK_of (f201_ok ⟨⟨rep,nth s.know rep.toNat + 1⟩,time,s.know,7,eo,eky,ev,(placeIn s eo (ep)).1⟩ hraw) ?_
      cases g2:actOk ⟨⟨rep,nth s.know rep.toNat + 1⟩,time,s.know,7,eo,eky,ev,(placeIn s eo (ep)).1⟩
      · simp -dsimp
        simp [actOf,hyes,g1p,er,g2,zeroAct]
      · simp -dsimp
        simp [actOf,hyes,g1p,er,g2]
    · have b7:(ek == 7) = false:=by simp [k7]
      have hpl:actPlace s ⟨ek,eo,eky,ev,ep⟩ = (zeroDot,true):=by simp [actPlace,k6,k7]
      have er:actRaw s rep time ⟨ek,eo,eky,ev,ep⟩ = ⟨⟨rep,nth s.know rep.toNat + 1⟩,time,s.know,ek,eo,eky,ev,⟨0,0⟩⟩:=by simp [actRaw,hpl,zeroDot]
      rw [er] at hraw
      simp -dsimp [q1,ne_of_lt q1,wk,wp,b6,b7,k6,k7]
      repeat (first|refine ⟨by omega,?_⟩|refine ⟨by simp [capMax];omega,?_⟩|refine ⟨⟨by omega,by omega⟩,?_⟩)
      refine ACallK_of (f129_ok ⟨rep,nth s.know rep.toNat + 1⟩) ?_
      by_cases kl:1000 ≤ nth s.know rep.toNat
      · have hno:actPre s rep time ⟨ek,eo,eky,ev,ep⟩ = false:=by simp [actPre]; intros; omega
        have hd:dotOk ⟨rep,nth s.know rep.toNat + 1⟩ = false:=by simp [dotOk,spIn]; intros; omega
        rw [hd]
        simp -dsimp
        simp [actOf,hno,zeroAct]
      have hyes:actPre s rep time ⟨ek,eo,eky,ev,ep⟩ = true:=by simp [actPre,ks,ke,kr,kt]; omega
      have hd:dotOk ⟨rep,nth s.know rep.toNat + 1⟩ = true:=by simp [dotOk,spIn]; omega
      rw [hd]
      have g1p:(actPlace s ⟨ek,eo,eky,ev,ep⟩).2 = true:=by rw [hpl]
      simp -dsimp [wk]
      refine ACallK_of (f201_ok ⟨⟨rep,nth s.know rep.toNat + 1⟩,time,s.know,ek,eo,eky,ev,⟨0,0⟩⟩ hraw) ?_
      cases g2:actOk ⟨⟨rep,nth s.know rep.toNat + 1⟩,time,s.know,ek,eo,eky,ev,⟨0,0⟩⟩
      · simp -dsimp
        simp [actOf,hyes,g1p,er,g2,zeroAct]
      · simp -dsimp
        simp [actOf,hyes,g1p,er,g2]
end Am
