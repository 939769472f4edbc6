/- What a right state has,by what lies in it. No condition. -/
import Derived.Test.YteidfkbfocdnmaaGreatD
import Derived.Test.YteidfkbfocdnmaaGreatE76
import Derived.Test.YteidfkbfocdnmaaGreatE56
import Derived.Test.YteidfkbfocdnmaaGreatE70
set_option linter.unusedSimpArgs false
set_option linter.unusedVariables false
set_option linter.unnecessarySimpa false
set_option linter.unusedSectionVars false
namespace Am
open Go
structure SOK (s:GState):Prop where
  k:knowOk s.know = true
  t1:s.tallies.length ≤ 120
  t2:∀ t,t ∈ s.tallies → tallyOk t = true
  t3:s.tallies.Pairwise fun a b => tallyLt a b = true
  l1:s.lives.length ≤ 120
  l2:∀ x,x ∈ s.lives → knows s.know x.dot = true ∧ liveOk x = true
  l3:s.lives.Pairwise fun a b => liveLt a b = true
  c1:s.cs.length ≤ 120
  c2:∀ c,c ∈ s.cs → knows s.know c.dot = true ∧ cellOk' c = true
  c3:s.cs.Pairwise fun a b => cellLt a b = true
  c4:∀ c,c ∈ s.cs → c.ref = zeroDot ∨ ∃ y,y ∈ s.cs ∧ y.dot = c.ref ∧ y.obj = c.obj ∧ y.time < c.time
theorem idx_cases {α:Type} [Cel α] (p:α → Bool) (xs:List α):(∃ i:Nat,i < xs.length ∧ p (nth xs i) = true ∧ (∀ j:Nat,j < i → p (nth xs j) = false) ∧ idx p xs = i) ∨ ((∀ j:Nat,j < xs.length → p (nth xs j) = false) ∧ idx p xs = -1):=by
  have key:∀ n:Nat,n ≤ xs.length → (∃ i:Nat,i < n ∧ p (nth xs i) = true ∧ ∀ j:Nat,j < i → p (nth xs j) = false) ∨ ∀ j:Nat,j < n → p (nth xs j) = false:=by
    intro n
    induction n with
    | zero => intro _; right; intro j hj; omega
    | succ n ih =>
      intro hn
      rcases ih (by omega) with ⟨i,h1,h2,h3⟩ | h
      · exact Or.inl ⟨i,by omega,h2,h3⟩
      · cases e:p (nth xs n)
        · right; intro j hj
          by_cases e2:j = n
          · subst e2; exact e
          · exact h j (by omega)
        · exact Or.inl ⟨n,by omega,e,h⟩
  rcases key xs.length (Nat.le_refl _) with ⟨i,h1,h2,h3⟩ | h
  · exact Or.inl ⟨i,h1,h2,h3,idx_here h1 h3 h2⟩
  · exact Or.inr ⟨h,idx_none h⟩
theorem cells_one {l:List GCell} (h:l.Pairwise fun a b => cellLt a b = true) {x y:GCell} (hx:x ∈ l) (hy:y ∈ l) (e:x.dot = y.dot):x = y:=by
  obtain ⟨i,hi,rfl⟩:=mem_nth hx
  obtain ⟨j,hj,rfl⟩:=mem_nth hy
  have irr:∀ d:GDot,before d d = false:=fun d => by simp [before]
  rcases Nat.lt_trichotomy i j with h1 | h1 | h1
  · have:=pw_nth h h1 hj
    rw [cellLt,e,irr] at this; cases this
  · rw [h1]
  · have:=pw_nth h h1 hi
    rw [cellLt,e,irr] at this; cases this
theorem cellAt_of {l:List GCell} (h:l.Pairwise fun a b => cellLt a b = true) {y:GCell} (hy:y ∈ l):0 ≤ cellAt l y.dot ∧ nth l (cellAt l y.dot).toNat = y:=by
  obtain ⟨i,hi,e⟩:=mem_nth hy
  unfold cellAt
  rcases idx_cases (dotIs y.dot) l with ⟨j,hj,h1,_,c1⟩ | ⟨h1,c1⟩
  · have hd:(nth l j).dot = y.dot:=by simpa [dotIs] using h1
    refine ⟨by omega,?_⟩
    rw [c1]
    exact cells_one h (nth_mem hj) hy hd
  · exfalso
    have:=h1 i hi
    rw [dotIs,e] at this; simp at this
theorem refGood_iff {l:List GCell} (h:l.Pairwise fun a b => cellLt a b = true) (c:GCell):refGood l c = true ↔ ∃ y,y ∈ l ∧ y.dot = c.ref ∧ y.obj = c.obj ∧ y.time < c.time:=by
  simp only [refGood,Bool.and_eq_true,decide_eq_true_eq]
  constructor
  · rintro ⟨⟨h1,h2⟩,h3⟩
    unfold cellAt at h1 h2 h3
    rcases idx_cases (dotIs c.ref) l with ⟨j,hj,h4,_,c1⟩ | ⟨_,c1⟩
    · rw [c1] at h2 h3
      exact ⟨_,nth_mem hj,by simpa [dotIs] using h4,h2,h3⟩
    · omega
  · rintro ⟨y,h1,h2,h3,h4⟩
    obtain ⟨q1,q2⟩:=cellAt_of h h1
    rw [h2] at q1 q2
    rw [q2]
    exact ⟨⟨q1,h3⟩,h4⟩
theorem refAt_iff {l:List GCell} (h:l.Pairwise fun a b => cellLt a b = true) (i:Nat):refAt l i = true ↔ (nth l i).ref = zeroDot ∨ ∃ y,y ∈ l ∧ y.dot = (nth l i).ref ∧ y.obj = (nth l i).obj ∧ y.time < (nth l i).time:=by
  rw [refAt,Bool.or_eq_true,refGood_iff h]
  simp only [Bool.and_eq_true,beq_iff_eq,GDot.ext_iff,zeroDot]
theorem sok_of {s:GState} (h:stateOk s = true):SOK s:=by
  have hl:=stateOk_len h
  have ht3:=stateOk_tallies h
  obtain ⟨hl3,hl2⟩:=stateOk_lives h
  have hc3:=stateOk_cells h
  simp only [stateOk,talliesOk,livKsOk,celKsOk,Bool.and_eq_true] at h
  obtain ⟨⟨⟨⟨h1,_,h2⟩,_,h3⟩,_,h4⟩,h5⟩:=h
  have a2:=allB_iff.1 h2
  have a3:=allB_iff.1 h3
  have a4:=allB_iff.1 h4
  have a5:=allB_iff.1 h5
  refine ⟨h1,hl.1,fun t ht => ?_,ht3,hl.2.1,fun x hx => ?_,hl3,hl.2.2,fun c hc => ?_,hc3,fun c hc => ?_⟩
  · obtain ⟨i,hi,rfl⟩:=mem_nth ht
    have:=a2 i hi
    simp only [talAt,Bool.and_eq_true] at this
    exact this.1
  · obtain ⟨i,hi,rfl⟩:=mem_nth hx
    have:=a3 i hi
    simp only [livKAt,Bool.and_eq_true] at this
    exact this.1
  · obtain ⟨i,hi,rfl⟩:=mem_nth hc
    have:=a4 i hi
    simp only [celKAt,Bool.and_eq_true] at this
    exact this.1
  · obtain ⟨i,hi,rfl⟩:=mem_nth hc
    exact (refAt_iff hc3 i).1 (a5 i hi)
theorem of_sok {s:GState} (h:SOK s):stateOk s = true:=by
  simp only [stateOk,talliesOk,livKsOk,celKsOk,Bool.and_eq_true,decide_eq_true_eq]
  have cons:∀ {α:Type} [Cel α] {l:List α} {lt:α → α → Bool},l.Pairwise (fun a b => lt a b = true) → ∀ i:Nat,i < l.length → i = 0 ∨ lt (nth l (i - 1)) (nth l i) = true:=by
    intro α _ l lt hp i hi
    rcases Nat.eq_zero_or_pos i with h0 | h0
    · exact .inl h0
    · exact .inr (pw_nth hp (by omega) hi)
  refine ⟨⟨⟨⟨h.k,h.t1,allB_iff.2 fun i hi => ?_⟩,h.l1,allB_iff.2 fun i hi => ?_⟩,h.c1,allB_iff.2 fun i hi => ?_⟩,allB_iff.2 fun i hi => ?_⟩
  · simp only [talAt,Bool.and_eq_true,Bool.or_eq_true,decide_eq_true_eq]
    exact ⟨h.t2 _ (nth_mem hi),cons h.t3 i hi⟩
  · simp only [livKAt,Bool.and_eq_true,Bool.or_eq_true,decide_eq_true_eq]
    exact ⟨h.l2 _ (nth_mem hi),cons h.l3 i hi⟩
  · simp only [celKAt,Bool.and_eq_true,Bool.or_eq_true,decide_eq_true_eq]
    exact ⟨h.c2 _ (nth_mem hi),cons h.c3 i hi⟩
  · exact (refAt_iff h.c3 i).2 (h.c4 _ (nth_mem hi))
end Am
namespace Am
open Go
theorem nth_setL {α:Type} [Cel α] (m:List α) (i x:Nat) (v:α):nth (m.set i v) x = if x = i ∧ i < m.length then v else nth m x:=by
  unfold nth
  rw [List.getD_eq_getElem?_getD,List.getD_eq_getElem?_getD,List.getElem?_set]
  by_cases e:i = x
  · subst e
    by_cases h:i < m.length
    · simp [h]
    · simp [h]
  · have e':¬ x = i:=fun h => e h.symm
    simp [e,e']
structure Done (s:GState) (a:GAct):Prop where
  s0:SOK s
  a0:actOk a = true
  n:knows s.know a.dot = false
  ki:knowIn a.knew s.know = true
  r:actRefOk s a = true
  m:tooMany (doneAct s a) = false
theorem done_of {s:GState} {a:GAct} (h:(doAct s a).2 = 0):Done s a ∧ (doAct s a).1 = doneAct s a:=by
  unfold doAct at h ⊢
  split at h <;> rename_i h1 <;> try (simp at h)
  split at h <;> rename_i h2 <;> try (simp at h)
  split at h <;> rename_i h3 <;> try (simp at h)
  split at h <;> rename_i h4 <;> try (simp at h)
  split at h <;> rename_i h5 <;> try (simp at h)
  split at h <;> rename_i h6 <;> try (simp at h)
  rw [if_neg h1,if_neg h2,if_neg h3,if_neg h4,if_neg h5,if_neg h6]
  simp only [Bool.not_eq_false,Bool.not_eq_true] at h1 h2 h3 h4 h5 h6
  exact ⟨⟨sok_of h1,h2,h3,h4,h5,h6⟩,rfl⟩
theorem dot_of {a:GAct} (h:actOk a = true):0 ≤ a.dot.rep ∧ a.dot.rep ≤ 2 ∧ 1 ≤ a.dot.seq ∧ a.dot.seq ≤ 1000:=by
  simp only [actOk,dotOk,spIn,Bool.and_eq_true,decide_eq_true_eq] at h
  omega
theorem seq_next {s:GState} {a:GAct} (h:Done s a):a.dot.seq = nth s.know a.dot.rep.toNat + 1 ∧ a.dot.rep.toNat < s.know.length:=by
  have hd:=dot_of h.a0
  have hk:=h.s0.k
  have hkk:=hk
  simp only [knowOk,Bool.and_eq_true,decide_eq_true_eq] at hkk
  have ha:=h.a0
  simp only [actOk,Bool.and_eq_true,beq_iff_eq] at ha
  have hi:=h.ki
  simp only [knowIn,Bool.and_eq_true,decide_eq_true_eq] at hi
  have hkn:=hi.1.1
  simp only [knowOk,Bool.and_eq_true,decide_eq_true_eq] at hkn
  have h1:=hi.2 a.dot.rep.toNat (by omega)
  have h2:=ha.1.1.1.2
  have hdo:dotOk a.dot = true:=ha.1.1.1.1.1
  have hn:=h.n
  rw [knows,hk,hdo] at hn
  simp only [Bool.and_true,Bool.true_and,decide_eq_false_iff_not] at hn
  omega
theorem know_next {s:GState} {a:GAct} (h:Done s a):knowOk (s.know.set a.dot.rep.toNat a.dot.seq) = true:=by
  have hd:=dot_of h.a0
  have hk:=h.s0.k
  simp only [knowOk,Bool.and_eq_true,decide_eq_true_eq,List.length_set] at hk ⊢
  refine ⟨hk.1,fun j hj => ?_⟩
  rw [nth_setL]
  split
  · omega
  · exact hk.2 j hj
theorem knows_next {s:GState} {a:GAct} (h:Done s a) {d:GDot} (hd:knows s.know d = true):knows (s.know.set a.dot.rep.toNat a.dot.seq) d = true:=by
  obtain ⟨h1,h2⟩:=seq_next h
  simp only [knows,Bool.and_eq_true,decide_eq_true_eq] at hd ⊢
  refine ⟨⟨know_next h,hd.1.2⟩,?_⟩
  rw [nth_setL]
  split
  · rename_i e
    have:=hd.2
    rw [e.1] at this
    omega
  · exact hd.2
theorem knows_self {s:GState} {a:GAct} (h:Done s a):knows (s.know.set a.dot.rep.toNat a.dot.seq) a.dot = true:=by
  obtain ⟨h1,h2⟩:=seq_next h
  have ha:=h.a0
  simp only [actOk,Bool.and_eq_true] at ha
  simp only [knows,Bool.and_eq_true,decide_eq_true_eq]
  refine ⟨⟨know_next h,ha.1.1.1.1.1⟩,?_⟩
  rw [nth_setL,if_pos ⟨rfl,h2⟩]
  exact Int.le_refl _
end Am
namespace Am
open Go
theorem plain_of {a:GAct} (h:actOk a = true):1 ≤ a.kind ∧ a.kind ≤ 7 ∧ nameOk a.obj = true ∧ (2 ≤ a.kind → a.kind ≤ 5 → nameOk a.key = true) ∧ 0 ≤ a.val ∧ a.val ≤ 999999 ∧ 1 ≤ a.time ∧ a.time ≤ 10000 ∧ (a.kind ≠ 1 → a.kind ≠ 4 → a.kind ≠ 6 → a.val = 0):=by
  simp only [actOk,plain,Bool.and_eq_true] at h
  obtain ⟨⟨⟨_,ht⟩,⟨⟨hk,ho⟩,hy⟩,hv⟩,_⟩:=h
  simp only [spIn,Bool.and_eq_true,decide_eq_true_eq] at ht hk
  refine ⟨hk.1,hk.2,ho,fun h2 h5 => ?_,?_,?_,ht.1,ht.2,fun n1 n4 n6 => ?_⟩
  · have:spIn a.kind 2 5 = true:=by simp [spIn,h2,h5]
    rw [if_pos this] at hy; exact hy
  · simp only [spIn,Bool.or_eq_true,Bool.and_eq_true,beq_iff_eq,decide_eq_true_eq] at hv
    rcases hv with h | h <;> omega
  · simp only [spIn,Bool.or_eq_true,Bool.and_eq_true,beq_iff_eq,decide_eq_true_eq] at hv
    rcases hv with h | h <;> omega
  · simp only [valued,Bool.or_eq_true,Bool.and_eq_true,beq_iff_eq] at hv
    rcases hv with h | h
    · exact h
    · rcases h.1 with (h | h) | h
      · exact absurd h n1
      · exact absurd h n4
      · exact absurd h n6
theorem ins_live {s:GState} {a:GAct} (h:Done s a) {l:List GLive} (hl:l.Pairwise fun x y => liveLt x y = true) (hk:∀ x,x ∈ l → knows s.know x.dot = true) (x:GLive) (hx:x.dot = a.dot):(insF liveLt x l).Pairwise fun x y => liveLt x y = true:=by
  refine insF_sorted liveLt_Lt hl fun y hy hf => ?_
  refine before_ne (fun e => ?_) hf
  have:=hk y hy
  rw [← e,hx,h.n] at this
  cases this
theorem ins_cell {s:GState} {a:GAct} (h:Done s a) {l:List GCell} (hl:l.Pairwise fun x y => cellLt x y = true) (hk:∀ x,x ∈ l → knows s.know x.dot = true) (x:GCell) (hx:x.dot = a.dot):(insF cellLt x l).Pairwise fun x y => cellLt x y = true:=by
  refine insF_sorted cellLt_Lt hl fun y hy hf => ?_
  refine before_ne (fun e => ?_) hf
  have:=hk y hy
  rw [← e,hx,h.n] at this
  cases this
theorem insF_mem {α:Type} [Cel α] {lt:α → α → Bool} {x y:α} {l:List α}:y ∈ insF lt x l ↔ y = x ∨ y ∈ l:=by
  rw [(insF_perm (lt:=lt) x l).mem_iff,List.mem_cons]
theorem clear_sub (m:Bool) (o k:ByteArray) (kn:List Int) (l:List GLive):(clearK m o k kn l l.length).Sublist l:=by
  rw [clearK,filK_filter _ _ _ (Nat.le_refl _),List.take_length]
  exact List.filter_sublist
theorem addT_cases (l:List GTally) (o:ByteArray) (r v:Int):(∃ i:Nat,i < l.length ∧ (nth l i).obj = o ∧ (nth l i).rep = r ∧ addT l o r v = l.set i ⟨o,r,(IntKind.i64.wrap ((nth l i).sum + v)).tmod 1000000⟩) ∨ ((∀ t,t ∈ l → ¬ (t.obj = o ∧ t.rep = r)) ∧ addT l o r v = insF tallyLt ⟨o,r,v⟩ l):=by
  unfold addT
  rcases idx_cases (talIs o r) l with ⟨i,hi,h1,_,c1⟩ | ⟨h1,c1⟩
  · left
    simp only [talIs,Bool.and_eq_true,decide_eq_true_eq,beq_iff_eq] at h1
    refine ⟨i,hi,h1.1,h1.2,?_⟩
    rw [c1,if_pos (by omega),Int.toNat_natCast]
  · right
    refine ⟨fun t ht => ?_,by rw [c1,if_neg (by omega)]⟩
    obtain ⟨i,hi,rfl⟩:=mem_nth ht
    have:=h1 i hi
    simp only [talIs,Bool.and_eq_false_iff,decide_eq_false_iff_not,beq_eq_false_iff_ne] at this
    rintro ⟨e1,e2⟩
    rcases this with h | h
    · exact h e1
    · exact h e2
theorem set_mem {α:Type} [Cel α] {l:List α} {i:Nat} {y x:α} (h:x ∈ l.set i y):x = y ∨ x ∈ l:=by
  rcases List.mem_or_eq_of_mem_set h with h | h
  · exact .inr h
  · exact .inl h
theorem done_sok {s:GState} {a:GAct} (h:Done s a):SOK (doneAct s a):=by
  have S:=h.s0
  obtain ⟨k1,k7,ho,hky,v0,v1,t0,t1,vz⟩:=plain_of h.a0
  obtain ⟨r0,r1,s1,s2⟩:=dot_of h.a0
  have hm:=h.m
  have hkn:=fun d hd => knows_next h (d:=d) hd
  have hself:=knows_self h
  simp only [tooMany,Bool.or_eq_false_iff,decide_eq_false_iff_not] at hm
  have lv:∀ x,x ∈ s.lives → knows (s.know.set a.dot.rep.toNat a.dot.seq) x.dot = true ∧ liveOk x = true:=fun x hx => ⟨hkn _ (S.l2 x hx).1,(S.l2 x hx).2⟩
  have cv:∀ x,x ∈ s.cs → knows (s.know.set a.dot.rep.toNat a.dot.seq) x.dot = true ∧ cellOk' x = true:=fun x hx => ⟨hkn _ (S.c2 x hx).1,(S.c2 x hx).2⟩
  have sub:=fun m => clear_sub m a.obj a.key a.knew s.lives
  unfold doneAct at hm ⊢
  by_cases e1:a.kind = 1
  · simp only [e1,if_true] at hm ⊢
    refine ⟨know_next h,by simpa using Nat.not_lt.1 hm.1,?_,?_,S.l1,lv,S.l3,S.c1,cv,S.c3,S.c4⟩
    · rcases addT_cases s.tallies a.obj a.dot.rep a.val with ⟨i,hi,q1,q2,e⟩ | ⟨q,e⟩
      · rw [e]
        intro t ht
        rcases set_mem ht with rfl | ht
        · have:=S.t2 _ (nth_mem hi)
          simp only [tallyOk,spIn,Bool.and_eq_true,decide_eq_true_eq] at this ⊢
          rw [wrap64 (by omega) (by omega)]
          have hn:=Int.tmod_nonneg 1000000 (show 0 ≤ (nth s.tallies i).sum + a.val by omega)
          have hlt:=Int.tmod_lt_of_pos ((nth s.tallies i).sum + a.val) (show (0:Int) < 1000000 by omega)
          exact ⟨⟨ho,by omega,by omega⟩,hn,by omega⟩
        · exact S.t2 t ht
      · rw [e]
        intro t ht
        rcases insF_mem.1 ht with rfl | ht
        · simp only [tallyOk,spIn,Bool.and_eq_true,decide_eq_true_eq]
          exact ⟨⟨ho,by omega,by omega⟩,v0,v1⟩
        · exact S.t2 t ht
    · rcases addT_cases s.tallies a.obj a.dot.rep a.val with ⟨i,hi,q1,q2,e⟩ | ⟨q,e⟩
      · rw [e]
        refine pw_of_nth fun x y hxy hy => ?_
        rw [List.length_set] at hy
        have hp:=pw_nth S.t3 hxy hy
        rw [nth_setL,nth_setL]
        by_cases ex:x = i
        · subst ex
          rw [if_pos ⟨rfl,hi⟩,if_neg (by omega)]
          simpa [tallyLt,q1,q2] using hp
        · rw [if_neg (by omega)]
          by_cases ey:y = i
          · subst ey
            rw [if_pos ⟨rfl,hi⟩]
            simpa [tallyLt,q1,q2] using hp
          · rw [if_neg (by omega)]; exact hp
      · rw [e]
        refine insF_sorted tallyLt_Lt S.t3 fun y hy hf => ?_
        cases hg:tallyLt y ⟨a.obj,a.dot.rep,a.val⟩
        · have:=tallyLt_tri hf hg
          exact absurd ⟨this.1.symm,this.2.symm⟩ (q y hy)
        · rfl
  simp only [e1,if_false] at hm ⊢
  by_cases e2:a.kind = 2
  · simp only [e2,if_true] at hm ⊢
    refine ⟨know_next h,S.t1,S.t2,S.t3,by simpa using Nat.not_lt.1 hm.2.1,fun x hx => ?_,ins_live h S.l3 (fun x hx => (S.l2 x hx).1) _ rfl,S.c1,cv,S.c3,S.c4⟩
    rcases insF_mem.1 hx with rfl | hx
    · exact ⟨hself,by simp [liveOk,ho,hky (by omega) (by omega),spIn]⟩
    · exact lv x hx
  simp only [e2,if_false] at hm ⊢
  by_cases e3:a.kind = 3
  · simp only [e3,if_true] at hm ⊢
    exact ⟨know_next h,S.t1,S.t2,S.t3,Nat.le_trans (sub false).length_le S.l1,fun x hx => lv x ((sub false).subset hx),S.l3.sublist (sub false),S.c1,cv,S.c3,S.c4⟩
  simp only [e3,if_false] at hm ⊢
  by_cases e4:a.kind = 4
  · simp only [e4,if_true] at hm ⊢
    refine ⟨know_next h,S.t1,S.t2,S.t3,by simpa using Nat.not_lt.1 hm.2.1,fun x hx => ?_,ins_live h (S.l3.sublist (sub true)) (fun x hx => (S.l2 x ((sub true).subset hx)).1) _ rfl,S.c1,cv,S.c3,S.c4⟩
    rcases insF_mem.1 hx with rfl | hx
    · exact ⟨hself,by simp [liveOk,ho,hky (by omega) (by omega),spIn,v0,v1]⟩
    · exact lv x ((sub true).subset hx)
  simp only [e4,if_false] at hm ⊢
  by_cases e5:a.kind = 5
  · simp only [e5,if_true] at hm ⊢
    exact ⟨know_next h,S.t1,S.t2,S.t3,Nat.le_trans (sub true).length_le S.l1,fun x hx => lv x ((sub true).subset hx),S.l3.sublist (sub true),S.c1,cv,S.c3,S.c4⟩
  simp only [e5,if_false] at hm ⊢
  by_cases e6:a.kind = 6
  · simp only [e6,if_true] at hm ⊢
    refine ⟨know_next h,S.t1,S.t2,S.t3,S.l1,lv,S.l3,by simpa using Nat.not_lt.1 hm.2.2,fun x hx => ?_,ins_cell h S.c3 (fun x hx => (S.c2 x hx).1) _ rfl,fun c hc => ?_⟩
    · rcases insF_mem.1 hx with rfl | hx
      · exact ⟨hself,by simp [cellOk',ho,spIn,v0,v1,t0,t1]⟩
      · exact cv x hx
    · rcases insF_mem.1 hc with rfl | hc
      · by_cases hz:a.ref = zeroDot
        · exact .inl hz
        · have hr:=h.r
          rw [actRefOk,if_pos (.inr ⟨e6,hz⟩)] at hr
          simp only [Bool.and_eq_true,Bool.or_eq_true,decide_eq_true_eq,beq_iff_eq] at hr
          obtain ⟨h1,h2,h3⟩:=hr
          rcases idx_cases (dotIs a.ref) s.cs with ⟨j,hj,q1,_,c1⟩ | ⟨_,c1⟩
          · have ej:refAtI s a = j:=by unfold refAtI cellAt; rw [c1]; rfl
            rw [ej] at h2 h3
            refine .inr ⟨_,insF_mem.2 (.inr (nth_mem hj)),by simpa [dotIs] using q1,h2,?_⟩
            rcases h3 with h3 | h3
            · omega
            · exact h3
          · unfold cellAt at h1; omega
      · rcases S.c4 c hc with hz | ⟨y,hy,q⟩
        · exact .inl hz
        · exact .inr ⟨y,insF_mem.2 (.inr hy),q⟩
  simp only [e6,if_false] at hm ⊢
  have e7:a.kind = 7:=by omega
  have hr:=h.r
  rw [actRefOk,if_pos (.inl e7)] at hr
  simp only [Bool.and_eq_true,decide_eq_true_eq] at hr
  have hi:refAtI s a < s.cs.length:=by
    have h1:=hr.1
    unfold refAtI
    rcases cellAt_cases s.cs a.ref with c1 | ⟨j,hj,c1⟩
    · omega
    · omega
  generalize refAtI s a = i at hi hm ⊢
  have hback:∀ c,c ∈ s.cs.set i { nth s.cs i with gone:=true } → ∃ c0,c0 ∈ s.cs ∧ c.dot = c0.dot ∧ c.obj = c0.obj ∧ c.time = c0.time ∧ c.ref = c0.ref ∧ c.val = c0.val:=by
    intro c hc
    rcases set_mem hc with rfl | hc
    · exact ⟨_,nth_mem hi,rfl,rfl,rfl,rfl,rfl⟩
    · exact ⟨c,hc,rfl,rfl,rfl,rfl,rfl⟩
  have hforth:∀ c0,c0 ∈ s.cs → ∃ c,c ∈ s.cs.set i { nth s.cs i with gone:=true } ∧ c.dot = c0.dot ∧ c.obj = c0.obj ∧ c.time = c0.time:=by
    intro c0 hc
    obtain ⟨j,hj,rfl⟩:=mem_nth hc
    have hm2:nth (s.cs.set i { nth s.cs i with gone:=true }) j ∈ s.cs.set i { nth s.cs i with gone:=true }:=nth_mem (by rw [List.length_set]; exact hj)
    refine ⟨_,hm2,?_⟩
    rw [nth_setL]
    split
    · rename_i e
      obtain ⟨rfl,_⟩:=e
      exact ⟨rfl,rfl,rfl⟩
    · exact ⟨rfl,rfl,rfl⟩
  refine ⟨know_next h,S.t1,S.t2,S.t3,S.l1,lv,S.l3,by rw [List.length_set]; exact S.c1,fun c hc => ?_,pw_of_nth fun x y hxy hy => ?_,fun c hc => ?_⟩
  · obtain ⟨c0,h0,d1,d2,d3,d4,d5⟩:=hback c hc
    have:=cv c0 h0
    refine ⟨by rw [d1]; exact this.1,?_⟩
    have h2:=this.2
    simp only [cellOk'] at h2 ⊢
    rw [d2,d3,d5]; exact h2
  · rw [List.length_set] at hy
    have hp:=pw_nth S.c3 hxy hy
    rw [nth_setL,nth_setL]
    by_cases ex:x = i
    · subst ex
      rw [if_pos ⟨rfl,hi⟩,if_neg (by omega)]
      exact hp
    · rw [if_neg (by omega)]
      by_cases ey:y = i
      · subst ey
        rw [if_pos ⟨rfl,hi⟩]
        exact hp
      · rw [if_neg (by omega)]; exact hp
  · obtain ⟨c0,h0,d1,d2,d3,d4,d5⟩:=hback c hc
    rcases S.c4 c0 h0 with hz | ⟨y,hy,q1,q2,q3⟩
    · exact .inl (by rw [d4]; exact hz)
    · obtain ⟨y',hy',w1,w2,w3⟩:=hforth y hy
      exact .inr ⟨y',hy',by rw [w1,q1,d4],by rw [w2,q2,d2],by rw [w3,d3]; exact q3⟩
theorem doAct_sok {s:GState} {a:GAct} (h:stateOk s = true):stateOk (doAct s a).1 = true:=by
  by_cases hc:(doAct s a).2 = 0
  · obtain ⟨h1,h2⟩:=done_of hc
    rw [h2]; exact of_sok (done_sok h1)
  · have:(doAct s a).1 = s:=by
      unfold doAct at hc ⊢
      split <;> try rfl
      split <;> try rfl
      split <;> try rfl
      split <;> try rfl
      split <;> try rfl
      split <;> try rfl
      simp_all
    rw [this]; exact h
end Am
namespace Am
open Go
theorem stateNew_sok:SOK (⟨[0,0,0],[],[],[]⟩:GState):=by
  refine ⟨by decide,by simp,by simp,by simp,by simp,by simp,by simp,by simp,by simp,by simp,by simp⟩
end Am
namespace Am
open Go
theorem doneAct_know (s:GState) (a:GAct):(doneAct s a).know = s.know.set a.dot.rep.toNat a.dot.seq:=by
  unfold doneAct
  simp only
  repeat' split
  all_goals rfl
theorem doAct_mono {s:GState} {a:GAct} {d:GDot} (hd:knows s.know d = true):knows (doAct s a).1.know d = true:=by
  by_cases hc:(doAct s a).2 = 0
  · obtain ⟨h1,h2⟩:=done_of hc
    rw [h2,doneAct_know]
    exact knows_next h1 hd
  · have:(doAct s a).1 = s:=by
      unfold doAct at hc ⊢
      split <;> try rfl
      split <;> try rfl
      split <;> try rfl
      split <;> try rfl
      split <;> try rfl
      split <;> try rfl
      simp_all
    rw [this]; exact hd
theorem doAct_again {s:GState} {a:GAct} (h:(doAct s a).2 = 0):knows s.know a.dot = false ∧ knows (doAct s a).1.know a.dot = true ∧ stateOk (doAct s a).1 = true ∧ doAct (doAct s a).1 a = ((doAct s a).1,1):=by
  obtain ⟨h1,h2⟩:=done_of h
  have hk:knows (doAct s a).1.know a.dot = true:=by rw [h2,doneAct_know]; exact knows_self h1
  have hs:stateOk (doAct s a).1 = true:=by rw [h2]; exact of_sok (done_sok h1)
  refine ⟨h1.n,hk,hs,?_⟩
  clear h h2
  generalize (doAct s a).1 = t at hk hs ⊢
  unfold doAct
  rw [if_neg (by simp [hs]),if_neg (by simp [h1.a0]),if_pos hk]
def passK (l:List GAct) (s:GState) (n:Int):Nat → GState × Int × Bool
  | 0 => (s,n,false)
  | i + 1 => if (doAct (passK l s n i).1 (nth l i)).2 = 0 then ((doAct (passK l s n i).1 (nth l i)).1,(passK l s n i).2.1 + 1,true) else passK l s n i
theorem passK_mono {l:List GAct} {s:GState} {n:Int} {d:GDot} (h:knows s.know d = true):∀ i,knows (passK l s n i).1.know d = true
  | 0 => h
  | i + 1 => by
    rw [passK]
    split
    · exact doAct_mono (passK_mono h i)
    · exact passK_mono h i
theorem passK_new {l:List GAct} {s:GState} {n:Int}:∀ i,(passK l s n i).2.2 = true → ∃ j:Nat,j < i ∧ knows s.know (nth l j).dot = false ∧ knows (passK l s n i).1.know (nth l j).dot = true
  | 0,h => by simp [passK] at h
  | i + 1,h => by
    rw [passK] at h ⊢
    split at h
    · rename_i hc
      rw [if_pos hc]
      obtain ⟨h1,h2,_⟩:=doAct_again hc
      refine ⟨i,by omega,?_,h2⟩
      cases hk:knows s.know (nth l i).dot
      · rfl
      · rw [passK_mono hk i] at h1; cases h1
    · rename_i hc
      rw [if_neg hc]
      obtain ⟨j,h1,h2,h3⟩:=passK_new i h
      exact ⟨j,by omega,h2,h3⟩
def cntK (l:List GAct) (k:List Int):Nat:=(l.filter fun a => knows k a.dot).length
theorem filter_lt {α:Type} {p q:α → Bool}:∀ {l:List α},(∀ x,x ∈ l → p x = true → q x = true) → (∃ x,x ∈ l ∧ p x = false ∧ q x = true) → (l.filter p).length < (l.filter q).length
  | [],_,⟨x,hx,_⟩ => by simp at hx
  | y :: r,h,⟨x,hx,h1,h2⟩ => by
    have hle:(r.filter p).length ≤ (r.filter q).length:=by
      clear hx h1 h2
      have h':∀ x,x ∈ r → p x = true → q x = true:=fun x hx => h x (by simp [hx])
      clear h
      induction r with
      | nil => simp
      | cons z t ih =>
        have:=ih (fun x hx => h' x (by simp [hx]))
        cases hp:p z
        · cases hq:q z <;> simp [hp,hq] <;> omega
        · simp [hp,h' z (by simp) hp]; omega
    rcases List.mem_cons.1 hx with rfl | hx
    · simp [h1,h2]; omega
    · have:=filter_lt (p:=p) (q:=q) (l:=r) (fun x hx => h x (by simp [hx])) ⟨x,hx,h1,h2⟩
      cases hp:p y
      · cases hq:q y <;> simp [hp,hq] <;> omega
      · simp [hp,h y (by simp) hp]; omega
theorem cntK_le (l:List GAct) (k:List Int):cntK l k ≤ l.length:=List.length_filter_le _ _
theorem passK_cnt {l:List GAct} {s:GState} {n:Int} (h:(passK l s n l.length).2.2 = true):cntK l s.know < cntK l (passK l s n l.length).1.know:=by
  refine filter_lt (fun x _ hx => passK_mono hx _) ?_
  obtain ⟨j,h1,h2,h3⟩:=passK_new l.length h
  exact ⟨nth l j,nth_mem h1,h2,h3⟩
def roundK (l:List GAct):Nat → GState × Int × Bool
  | 0 => (⟨[0,0,0],[],[],[]⟩,0,true)
  | k + 1 => passK l (roundK l k).1 (roundK l k).2.1 l.length
theorem roundK_cnt (l:List GAct):∀ k,(∀ j,j ≤ k → (roundK l j).2.2 = true) → k ≤ cntK l (roundK l k).1.know
  | 0,_ => Nat.zero_le _
  | k + 1,h => by
    have h1:=roundK_cnt l k (fun j hj => h j (by omega))
    have h2:=passK_cnt (h (k + 1) (Nat.le_refl _))
    have e:(roundK l (k + 1)).1 = (passK l (roundK l k).1 (roundK l k).2.1 l.length).1:=rfl
    rw [e]
    omega
theorem roundK_end (l:List GAct):∃ k:Nat,k ≤ l.length + 1 ∧ (roundK l k).2.2 = false ∧ ∀ j,j < k → (roundK l j).2.2 = true:=by
  have key:∀ n:Nat,(∃ k:Nat,k ≤ n ∧ (roundK l k).2.2 = false ∧ ∀ j,j < k → (roundK l j).2.2 = true) ∨ ∀ j,j ≤ n → (roundK l j).2.2 = true:=by
    intro n
    induction n with
    | zero => right; intro j hj; have:j = 0:=by omega
              subst this; rfl
    | succ n ih =>
      rcases ih with ⟨k,h1,h2⟩ | h
      · exact .inl ⟨k,by omega,h2⟩
      · cases e:(roundK l (n + 1)).2.2
        · exact .inl ⟨n + 1,Nat.le_refl _,e,fun j hj => h j (by omega)⟩
        · right; intro j hj
          by_cases e2:j = n + 1
          · subst e2; exact e
          · exact h j (by omega)
  rcases key (l.length + 1) with h | h
  · exact h
  · have h1:=roundK_cnt l (l.length + 1) h
    have h2:=cntK_le l (roundK l (l.length + 1)).1.know
    omega
end Am
namespace Am
open Go
def counts (o:ByteArray) (r:Int) (a:GAct):Bool:=decide (a.kind = 1 ∧ a.obj = o ∧ a.dot.rep = r)
def sumV (o:ByteArray) (r:Int):List GAct → Int
  | [] => 0
  | a :: D => if counts o r a then a.val + sumV o r D else sumV o r D
def puts (a:GAct) (x:GLive):Prop:=(a.kind = 2 ∧ x = ⟨false,a.obj,a.key,0,a.dot⟩) ∨ (a.kind = 4 ∧ x = ⟨true,a.obj,a.key,a.val,a.dot⟩)
def takes (y:GAct) (x:GLive):Prop:=x.obj = y.obj ∧ x.key = y.key ∧ knows y.knew x.dot = true ∧ ((y.kind = 3 ∧ x.map = false) ∨ ((y.kind = 4 ∨ y.kind = 5) ∧ x.map = true))
def celOf (a:GAct) (g:Bool):GCell:=⟨a.obj,a.dot,a.time,a.ref,a.val,g⟩
def isCut (D:List GAct) (d:GDot):Prop:=∃ y,y ∈ D ∧ y.kind = 7 ∧ y.ref = d
structure Canon (D:List GAct) (s:GState):Prop where
  sok:SOK s
  know:∀ d,knows s.know d = true ↔ ∃ a,a ∈ D ∧ a.dot = d
  tal:∀ t:GTally,t ∈ s.tallies ↔ (∃ a,a ∈ D ∧ counts t.obj t.rep a = true) ∧ t.sum = sumV t.obj t.rep D % 1000000
  liv:∀ x:GLive,x ∈ s.lives ↔ (∃ a,a ∈ D ∧ puts a x) ∧ ¬ ∃ y,y ∈ D ∧ takes y x
  cel:∀ c:GCell,c ∈ s.cs ↔ ∃ a,a ∈ D ∧ a.kind = 6 ∧ c = celOf a c.gone ∧ (c.gone = true ↔ isCut D a.dot)
  acts:∀ a,a ∈ D → actOk a = true ∧ knowIn a.knew s.know = true
  nod:(D.map (·.dot)).Nodup
end Am
namespace Am
open Go
end Am
namespace Am
open Go
end Am
namespace Am
open Go
end Am
namespace Am
open Go
end Am
namespace Am
open Go
end Am
namespace Am
open Go
end Am
namespace Am
open Go
def newS:GState:=⟨[0,0,0],[],[],[]⟩
def doK (l:List GAct) (s:GState):Nat → GState
  | 0 => s
  | i + 1 => (doAct (doK l s i) (nth l i)).1
def whole (l:List GAct):Prop:=∀ i:Nat,i < l.length → (doAct (doK l newS i) (nth l i)).2 = 0
end Am
namespace Am
open Go
end Am
namespace Am
open Go
theorem nth_app_l {α:Type} [Cel α] {xs ys:List α} {i:Nat} (h:i < xs.length):nth (xs ++ ys) i = nth xs i:=by
  unfold nth
  rw [List.getD_eq_getElem?_getD,List.getD_eq_getElem?_getD,List.getElem?_append_left h]
theorem nth_app_at {α:Type} [Cel α] {xs:List α} {y:α}:nth (xs ++ [y]) xs.length = y:=by
  unfold nth
  rw [List.getD_eq_getElem?_getD,List.getElem?_append_right (Nat.le_refl _)]
  simp
end Am
namespace Am
open Go
end Am
namespace Am
open Go
structure Two (p a b:GState) (D0 D1 D2:List GAct):Prop where
  c0:Canon D0 p
  c1:Canon D1 a
  c2:Canon D2 b
  s1:∀ x,x ∈ D0 → x ∈ D1
  s2:∀ x,x ∈ D0 → x ∈ D2
  r1:∀ x,x ∈ D1 → x ∈ D0 ∨ x.dot.rep = 0
  r2:∀ x,x ∈ D2 → x ∈ D0 ∨ x.dot.rep = 1
  l0:D0.length ≤ 20
  l1:D1.length ≤ 30
  l2:D2.length ≤ 30
end Am
namespace Am
open Go
def timeK (l:List GCell):Nat → Int
  | 0 => 0
  | i + 1 => if timeK l i < (nth l i).time then (nth l i).time else timeK l i
def timeOf (s:GState):Int:=timeK s.cs s.cs.length
theorem timeK_ge (l:List GCell):∀ i (j:Nat),j < i → (nth l j).time ≤ timeK l i
  | i + 1,j,h => by
    rw [timeK]
    by_cases e:j = i
    · subst e; split <;> omega
    · have:=timeK_ge l i j (by omega)
      split <;> omega
theorem timeK_bd (l:List GCell) {m:Int} (hm:0 ≤ m) (h:∀ x,x ∈ l → x.time ≤ m):∀ i:Nat,i ≤ l.length → 0 ≤ timeK l i ∧ timeK l i ≤ m
  | 0,_ => by simp only [timeK]; omega
  | i + 1,hi => by
    have h1:=timeK_bd l hm h i (by omega)
    have h2:=h _ (nth_mem (show i < l.length by omega))
    rw [timeK]
    split <;> omega
theorem timeOf_bd {s:GState} (h:SOK s):0 ≤ timeOf s ∧ timeOf s ≤ 10000 :=
  timeK_bd s.cs (by omega) (fun x hx => by
    have:=(h.c2 x hx).2
    simp only [cellOk',cellOk,spIn,Bool.and_eq_true,decide_eq_true_eq] at this
    omega) s.cs.length (Nat.le_refl _)
end Am
namespace Am
open Go
def made (l:List GAct):Prop:=∀ i:Nat,i < l.length → ∃ D0 s0,Canon D0 s0 ∧ Done s0 (nth l i) ∧ (nth l i).knew = s0.know ∧ ∀ b,b ∈ D0 → ∃ j:Nat,j < i ∧ b = nth l j
end Am
namespace Am
open Go
theorem done_time {s:GState} {a:GAct} (hd:Done s a) {x:GCell} (hx:x ∈ (doneAct s a).cs):(∃ y,y ∈ s.cs ∧ y.time = x.time) ∨ x.time = a.time:=by
  unfold doneAct at hx
  simp only at hx
  repeat' split at hx
  · exact .inl ⟨x,hx,rfl⟩
  · exact .inl ⟨x,hx,rfl⟩
  · exact .inl ⟨x,hx,rfl⟩
  · exact .inl ⟨x,hx,rfl⟩
  · exact .inl ⟨x,hx,rfl⟩
  · rcases insF_mem.1 hx with rfl | hx
    · exact .inr rfl
    · exact .inl ⟨x,hx,rfl⟩
  · rename_i h7
    rcases set_mem hx with rfl | hx
    · left
      have hF:=actF_of (of_sok hd.s0) hd.a0 hd.r
      have k7:a.kind = 7:=by
        have:=hF.k1
        have:=hF.k7
        omega
      obtain ⟨j,hj,e⟩:=hF.ref k7
      refine ⟨nth s.cs (refAtI s a),nth_mem ?_,rfl⟩
      unfold refAtI; rw [e]; omega
    · exact .inl ⟨x,hx,rfl⟩
theorem timeOf_le {s:GState} {m:Int} (hm:0 ≤ m) (h:∀ x,x ∈ s.cs → x.time ≤ m):timeOf s ≤ m:=(timeK_bd s.cs hm h s.cs.length (Nat.le_refl _)).2
theorem time_le {s:GState} {x:GCell} (h:x ∈ s.cs):x.time ≤ timeOf s:=by
  obtain ⟨j,hj,rfl⟩:=mem_nth h
  exact timeK_ge s.cs s.cs.length j hj
end Am
namespace Am
open Go
theorem doAct_ok {s:GState} {a:GAct} (hs:s.Ok) (ha:a.Ok):(doAct s a).1.Ok:=by
  unfold doAct
  split
  · exact hs
  rename_i k1
  split
  · exact hs
  split
  · exact hs
  split
  · exact hs
  split
  · exact hs
  split
  · exact hs
  · have sl:=stateOk_len (by simpa using k1)
    exact doneAct_ok hs ha sl.1 sl.2.1 sl.2.2
theorem actOf_ok {s:GState} {rep time:Int} {e:GEdit} (hs:s.Ok) (h1:e.obj.size ≤ 1073741824) (h2:e.key.size ≤ 1073741824):(actOf s rep time e).1.Ok:=by
  unfold actOf
  split
  · simp only [zeroAct,GAct.Ok]; exact ⟨by simp,Nat.zero_le _,Nat.zero_le _⟩
  split
  · simp only [zeroAct,GAct.Ok]; exact ⟨by simp,Nat.zero_le _,Nat.zero_le _⟩
  split
  · simp only [zeroAct,GAct.Ok]; exact ⟨by simp,Nat.zero_le _,Nat.zero_le _⟩
  · simp only [GState.Ok] at hs
    simp only [GAct.Ok]; exact ⟨hs.1,h1,h2⟩
theorem nameOk_size {s:ByteArray} (h:nameOk s = true):s.size ≤ 8:=by
  simp only [nameOk,spIn,Bool.and_eq_true,decide_eq_true_eq] at h
  omega
theorem sok_Ok {s:GState} (h:SOK s):s.Ok:=by
  have hk:=h.k
  have h1:=h.t1
  have h2:=h.l1
  have h3:=h.c1
  simp only [knowOk,Bool.and_eq_true,decide_eq_true_eq] at hk
  simp only [GState.Ok]
  refine ⟨by omega,by omega,fun y hy => ?_,by omega,fun y hy => ?_,by omega,fun y hy => ?_⟩
  · have:=h.t2 y hy
    simp only [tallyOk,Bool.and_eq_true] at this
    simp only [GTally.Ok]
    have:=nameOk_size this.1.1
    omega
  · have:=(h.l2 y hy).2
    simp only [liveOk,Bool.and_eq_true] at this
    simp only [GLive.Ok]
    have h4:=nameOk_size this.1.1.1
    have h5:=nameOk_size this.1.1.2
    omega
  · have:=(h.c2 y hy).2
    simp only [cellOk',Bool.and_eq_true] at this
    simp only [GCell.Ok]
    have:=nameOk_size this.1.1
    omega
end Am
