/- An act done: the canonical state of one act more. No condition. -/
import Derived.Test.YtjbbhccphedkfaaGreatD
import Derived.Test.YtjbbhccphedkfaaGreatE78
import Derived.Test.YtjbbhccphedkfaaGreatE56
set_option linter.unusedSimpArgs false
set_option linter.unusedVariables false
set_option linter.unnecessarySimpa false
set_option linter.unusedSectionVars false
namespace Am
open Go
theorem nodup_inj {l:List GAct} (h:(l.map (·.dot)).Nodup) {a b:GAct} (ha:a ∈ l) (hb:b ∈ l) (e:a.dot = b.dot):a = b:=by
  induction l with
  | nil => cases ha
  | cons x r ih =>
    rw [List.map_cons,List.nodup_cons] at h
    rcases List.mem_cons.1 ha with e1 | ha'
    · rcases List.mem_cons.1 hb with e2 | hb'
      · rw [e1,e2]
      · exact absurd (List.mem_map.2 ⟨b,hb',by rw [← e,e1]⟩) h.1
    · rcases List.mem_cons.1 hb with e2 | hb'
      · exact absurd (List.mem_map.2 ⟨a,ha',by rw [e,e2]⟩) h.1
      · exact ih h.2 ha' hb'
theorem ref_known {a:GAct} (h:actOk a = true) (h7:a.kind = 7):knows a.knew a.ref = true:=by
  simp only [actOk,Bool.and_eq_true] at h
  have:=h.2
  rw [actRef,if_pos (by simp [h7])] at this
  exact this
theorem cel_next {D:List GAct} {s:GState} {a:GAct} (h:Canon D s) (hd:Done s a) (c:GCell):c ∈ (doneAct s a).cs ↔ ∃ b,b ∈ a :: D ∧ b.kind = 6 ∧ c = celOf b c.gone ∧ (c.gone = true ↔ isCut (a :: D) b.dot):=by
  obtain ⟨k1,k7,_⟩:=plain_of hd.a0
  have hcut:a.kind ≠ 7 → ∀ d,isCut (a :: D) d ↔ isCut D d:=by
    intro h7 d
    unfold isCut
    simp [h7]
  by_cases e6:a.kind = 6
  · have ht:(doneAct s a).cs = insF cellLt (celOf a false) s.cs:=by unfold doneAct celOf; simp [e6]
    rw [ht,insF_mem]
    have hno:¬ isCut D a.dot:=by
      rintro ⟨y,hy,h7,hr⟩
      have h1:=h.acts y hy
      have h2:=knows_in h1.2 (ref_known h1.1 h7)
      rw [hr,hd.n] at h2; cases h2
    have h67:a.kind ≠ 7:=by omega
    constructor
    · rintro (rfl | hm)
      · exact ⟨a,by simp,e6,rfl,by simp [celOf,hcut h67,hno]⟩
      · obtain ⟨b,hb,q1,q2,q3⟩:=(h.cel c).1 hm
        exact ⟨b,by simp [hb],q1,q2,by rw [hcut h67]; exact q3⟩
    · rintro ⟨b,hb,q1,q2,q3⟩
      rw [hcut h67] at q3
      rcases List.mem_cons.1 hb with rfl | hb
      · left
        have:c.gone = false:=by
          cases hg:c.gone
          · rfl
          · exact absurd (q3.1 hg) hno
        rw [q2,this]
      · exact .inr ((h.cel c).2 ⟨b,hb,q1,q2,q3⟩)
  by_cases e7:a.kind = 7
  · have ht:(doneAct s a).cs = s.cs.set (refAtI s a) { nth s.cs (refAtI s a) with gone:=true }:=by unfold doneAct; simp [e7]
    rw [ht]
    have hr:=hd.r
    rw [actRefOk,if_pos (.inl e7)] at hr
    simp only [Bool.and_eq_true,decide_eq_true_eq] at hr
    obtain ⟨hi,hdot⟩:refAtI s a < s.cs.length ∧ (nth s.cs (refAtI s a)).dot = a.ref:=by
      have h1:=hr.1
      unfold refAtI
      unfold cellAt at h1 ⊢
      rcases idx_cases (dotIs a.ref) s.cs with ⟨j,hj,q1,_,c1⟩ | ⟨_,c1⟩
      · rw [c1,Int.toNat_natCast]
        exact ⟨hj,by simpa [dotIs] using q1⟩
      · omega
    generalize refAtI s a = i at hi hdot ⊢
    have hcut7:∀ d,isCut (a :: D) d ↔ d = a.ref ∨ isCut D d:=by
      intro d
      unfold isCut
      simp only [List.mem_cons]
      constructor
      · rintro ⟨y,rfl | hy,q1,q2⟩
        · exact .inl q2.symm
        · exact .inr ⟨y,hy,q1,q2⟩
      · rintro (rfl | ⟨y,hy,q1,q2⟩)
        · exact ⟨a,.inl rfl,e7,rfl⟩
        · exact ⟨y,.inr hy,q1,q2⟩
    have hmem:∀ x:GCell,x ∈ s.cs.set i { nth s.cs i with gone:=true } ↔ (x = { nth s.cs i with gone:=true }) ∨ (x ∈ s.cs ∧ x.dot ≠ a.ref):=by
      intro x
      constructor
      · intro hm
        obtain ⟨j,hj,ej⟩:=mem_nth hm
        rw [List.length_set] at hj
        rw [nth_setL] at ej
        split at ej
        · exact .inl ej.symm
        · rename_i hne
          refine .inr ⟨by rw [← ej]; exact nth_mem hj,fun e => hne ⟨?_,hi⟩⟩
          have e2:nth s.cs j = nth s.cs i:=cells_one h.sok.c3 (nth_mem hj) (nth_mem hi) (by rw [ej,e,hdot])
          have irr:∀ d:GDot,before d d = false:=fun d => by simp [before]
          rcases Nat.lt_trichotomy i j with h1 | h1 | h1
          · have:=pw_nth h.sok.c3 h1 hj
            rw [e2,cellLt,irr] at this; cases this
          · exact h1.symm
          · have:=pw_nth h.sok.c3 h1 hi
            rw [e2,cellLt,irr] at this; cases this
      · rintro (rfl | ⟨hm,hne⟩)
        · exact set_memI hi _
        · obtain ⟨j,hj,rfl⟩:=mem_nth hm
          have hji:¬ j = i:=by rintro rfl; exact hne hdot
          have:=nth_mem (xs:=s.cs.set i { nth s.cs i with gone:=true }) (i:=j) (by rw [List.length_set]; exact hj)
          rw [nth_setL,if_neg (fun hh => hji hh.1)] at this
          exact this
    rw [hmem]
    constructor
    · rintro (rfl | ⟨hm,hne⟩)
      · obtain ⟨b,hb,q1,q2,q3⟩:=(h.cel _).1 (nth_mem hi)
        have hbd:b.dot = a.ref:=by rw [← hdot,q2]; rfl
        refine ⟨b,by simp [hb],q1,?_,by simp [hcut7,hbd]⟩
        have e1:=congrArg GCell.obj q2
        have e2:=congrArg GCell.dot q2
        have e3:=congrArg GCell.time q2
        have e4:=congrArg GCell.ref q2
        have e5:=congrArg GCell.val q2
        exact GCell.ext e1 e2 e3 e4 e5 rfl
      · obtain ⟨b,hb,q1,q2,q3⟩:=(h.cel c).1 hm
        refine ⟨b,by simp [hb],q1,q2,?_⟩
        have hbd:b.dot = c.dot:=by rw [q2]; rfl
        rw [q3,hcut7]
        constructor
        · exact .inr
        · rintro (e | h1)
          · exact absurd (hbd.symm.trans e) hne
          · exact h1
    · rintro ⟨b,hb,q1,q2,q3⟩
      rcases List.mem_cons.1 hb with rfl | hb
      · omega
      · have hbd:c.dot = b.dot:=by rw [q2]; rfl
        rw [hcut7] at q3
        by_cases e:b.dot = a.ref
        · left
          have hg:c.gone = true:=q3.2 (.inl e)
          obtain ⟨b',hb',w1,w2,w3⟩:=(h.cel _).1 (nth_mem hi)
          have hbd':b'.dot = a.ref:=by rw [← hdot,w2]; rfl
          have hbb:b = b':=by
            have hn:=h.nod
            exact nodup_inj hn hb hb' (by rw [e,hbd'])
          subst hbb
          have f:∀ (x:GCell),x = celOf b x.gone → x = ⟨b.obj,b.dot,b.time,b.ref,b.val,x.gone⟩:=fun x hx => hx
          rw [f c q2,hg]
          have g:=f _ w2
          have e1:=congrArg GCell.obj g
          have e2:=congrArg GCell.dot g
          have e3:=congrArg GCell.time g
          have e4:=congrArg GCell.ref g
          have e5:=congrArg GCell.val g
          exact GCell.ext e1.symm e2.symm e3.symm e4.symm e5.symm rfl
        · right
          refine ⟨(h.cel c).2 ⟨b,hb,q1,q2,?_⟩,by rw [hbd]; exact e⟩
          rw [q3]
          constructor
          · rintro (h1 | h1)
            · exact absurd h1 e
            · exact h1
          · exact .inr
  · have ht:(doneAct s a).cs = s.cs:=by
      unfold doneAct
      have:a.kind = 1 ∨ a.kind = 2 ∨ a.kind = 3 ∨ a.kind = 4 ∨ a.kind = 5:=by omega
      rcases this with e | e | e | e | e <;> simp [e]
    rw [ht,h.cel]
    constructor
    · rintro ⟨b,hb,q1,q2,q3⟩
      exact ⟨b,by simp [hb],q1,q2,by rw [hcut e7]; exact q3⟩
    · rintro ⟨b,hb,q1,q2,q3⟩
      rw [hcut e7] at q3
      rcases List.mem_cons.1 hb with rfl | hb
      · exact absurd q1 e6
      · exact ⟨b,hb,q1,q2,q3⟩
theorem canon_next {D:List GAct} {s:GState} {a:GAct} (h:Canon D s) (hd:Done s a):Canon (a :: D) (doneAct s a):=by
  have hk:(doneAct s a).know = s.know.set a.dot.rep.toNat a.dot.seq:=doneAct_know s a
  have hki:=hd.ki
  refine ⟨done_sok hd,fun d => ?_,tal_next h hd,fun x => ?_,cel_next h hd,fun b hb => ?_,?_⟩
  · rw [hk,knows_set hd,h.know]
    simp only [List.mem_cons]
    constructor
    · rintro (rfl | ⟨b,hb,e⟩)
      · exact ⟨a,.inl rfl,rfl⟩
      · exact ⟨b,.inr hb,e⟩
    · rintro ⟨b,rfl | hb,e⟩
      · exact .inl e.symm
      · exact .inr ⟨b,hb,e⟩
  · rw [lives_next hd]
    have hpd:∀ b:GAct,puts b x → x.dot = b.dot:=by
      rintro b (⟨_,e⟩ | ⟨_,e⟩) <;> rw [e]
    constructor
    · rintro (hp | ⟨hx,hnt⟩)
      · refine ⟨⟨a,by simp,hp⟩,?_⟩
        rintro ⟨y,hy,_,_,hkn,_⟩
        rw [hpd a hp] at hkn
        rcases List.mem_cons.1 hy with rfl | hy
        · rw [knew_self hd.a0] at hkn; cases hkn
        · have:=knows_in (h.acts y hy).2 hkn
          rw [hd.n] at this; cases this
      · obtain ⟨⟨b,hb,hp⟩,hn⟩:=(h.liv x).1 hx
        refine ⟨⟨b,by simp [hb],hp⟩,?_⟩
        rintro ⟨y,hy,ht⟩
        rcases List.mem_cons.1 hy with rfl | hy
        · exact hnt ht
        · exact hn ⟨y,hy,ht⟩
    · rintro ⟨⟨b,hb,hp⟩,hn⟩
      rcases List.mem_cons.1 hb with rfl | hb
      · exact .inl hp
      · exact .inr ⟨(h.liv x).2 ⟨⟨b,hb,hp⟩,fun ⟨y,hy,ht⟩ => hn ⟨y,by simp [hy],ht⟩⟩,fun ht => hn ⟨a,by simp,ht⟩⟩
  · rw [hk]
    rcases List.mem_cons.1 hb with rfl | hb
    · exact ⟨hd.a0,knowIn_next hd hki⟩
    · exact ⟨(h.acts b hb).1,knowIn_next hd (h.acts b hb).2⟩
  · rw [List.map_cons,List.nodup_cons]
    refine ⟨fun hm => ?_,h.nod⟩
    obtain ⟨b,hb,e⟩:=List.mem_map.1 hm
    have:=(h.know a.dot).2 ⟨b,hb,e⟩
    rw [hd.n] at this; cases this
end Am
namespace Am
open Go
end Am
namespace Am
open Go
theorem nodup_len {α:Type} [DecidableEq α]:∀ {l m:List α},l.Nodup → (∀ x,x ∈ l → x ∈ m) → l.length ≤ m.length
  | [],_,_,_ => Nat.zero_le _
  | x :: r,m,h,hs => by
    rw [List.nodup_cons] at h
    have hx:=hs x (by simp)
    have h1:=nodup_len (l:=r) (m:=m.erase x) h.2 (fun y hy => by
      have hne:y ≠ x:=by rintro rfl; exact h.1 hy
      exact (List.mem_erase_of_ne hne).2 (hs y (by simp [hy])))
    rw [List.length_erase_of_mem hx] at h1
    have:=List.length_pos_of_mem hx
    simp only [List.length_cons]
    omega
theorem pw_nodup {α:Type} {lt:α → α → Bool} (hL:Lt lt) {l:List α} (h:l.Pairwise fun a b => lt a b = true):l.Nodup:=by
  refine h.imp fun {a b} hab e => ?_
  subst e
  have:=hL.asym a a hab
  rw [hab] at this; cases this
end Am
namespace Am
open Go
theorem know_le {k k':List Int} (h:knowOk k = true) (h':knowOk k' = true) (e:∀ d,knows k d = true → knows k' d = true):∀ j:Nat,j < k.length → nth k j ≤ nth k' j:=by
  have hk:=h
  have hk':=h'
  simp only [knowOk,Bool.and_eq_true,decide_eq_true_eq] at hk hk'
  intro j hj
  have b:=hk.2 j hj
  have b':=hk'.2 j (by omega)
  rcases Int.lt_or_le (nth k' j) (nth k j) with h1 | h1
  · have hd:dotOk ⟨(j:Int),nth k j⟩ = true:=by simp only [dotOk,spIn,Bool.and_eq_true,decide_eq_true_eq]; omega
    have:=e ⟨(j:Int),nth k j⟩ (by simp only [knows,h,hd,Bool.true_and,decide_eq_true_eq,Int.toNat_natCast]; exact Int.le_refl _)
    simp only [knows,h',hd,Bool.true_and,decide_eq_true_eq,Int.toNat_natCast] at this
    exact this
  · exact h1
end Am
namespace Am
open Go
def newS:GState:=⟨[0,0,0],[],[],[]⟩
def doK (l:List GAct) (s:GState):Nat → GState
  | 0 => s
  | i + 1 => (doAct (doK l s i) (nth l i)).1
def whole (l:List GAct):Prop:=∀ i:Nat,i < l.length → (doAct (doK l newS i) (nth l i)).2 = 0
theorem nod_map {l:List GAct} (h:(l.map (·.dot)).Nodup):l.Nodup:=by
  unfold List.Nodup at h
  rw [List.pairwise_map] at h
  exact h.imp fun {a b} hab e => hab (by rw [e])
theorem perm_of {l m:List GAct} (hl:(l.map (·.dot)).Nodup) (hm:(m.map (·.dot)).Nodup) (h:∀ x,x ∈ l ↔ x ∈ m):l.Perm m:=by
  have n1:l.Nodup:=nod_map hl
  have n2:m.Nodup:=nod_map hm
  exact (List.perm_ext_iff_of_nodup n1 n2).2 h
end Am
namespace Am
open Go
end Am
namespace Am
open Go
theorem nth_app_l {α:Type} [Cel α] {xs ys:List α} {i:Nat} (h:i < xs.length):nth (xs ++ ys) i = nth xs i:=by
  unfold nth
  rw [List.getD_eq_getElem?_getD,List.getD_eq_getElem?_getD,List.getElem?_append_left h]
theorem nth_app_at {α:Type} [Cel α] {xs:List α} {y:α}:nth (xs ++ [y]) xs.length = y:=by
  unfold nth
  rw [List.getD_eq_getElem?_getD,List.getElem?_append_right (Nat.le_refl _)]
  simp
theorem maxK_nth (a b:List Int):∀ n j,j < n → nth (maxK a b n) j = max (nth a j) (nth b j)
  | n + 1,j,h => by
    rw [maxK]
    have hl:=maxK_len a b n
    by_cases e:j = n
    · subst e
      have:=nth_app_at (xs:=maxK a b j) (y:=max (nth a j) (nth b j))
      rw [hl] at this
      exact this
    · rw [nth_app_l (by omega)]
      exact maxK_nth a b n j (by omega)
theorem knowMax_spec {a b:List Int} (ha:knowOk a = true) (hb:knowOk b = true):knowOk (knowMax a b) = true ∧ (knowMax a b).length = 3 ∧ ∀ j:Nat,j < 3 → nth (knowMax a b) j = max (nth a j) (nth b j):=by
  have e:knowMax a b = maxK a b a.length:=by unfold knowMax; rw [if_pos (by simp [ha,hb])]
  have ha':=ha
  have hb':=hb
  simp only [knowOk,Bool.and_eq_true,decide_eq_true_eq] at ha' hb'
  have hl:=maxK_len a b a.length
  have hn:∀ j:Nat,j < 3 → nth (knowMax a b) j = max (nth a j) (nth b j):=fun j hj => by rw [e]; exact maxK_nth a b _ j (by omega)
  refine ⟨?_,by rw [e]; omega,hn⟩
  simp only [knowOk,Bool.and_eq_true,decide_eq_true_eq]
  refine ⟨by rw [e]; omega,fun j hj => ?_⟩
  have h3:j < 3:=by rw [e] at hj; omega
  rw [hn j h3]
  have h1:=ha'.2 j (by omega)
  have h2:=hb'.2 j (by omega)
  omega
theorem knows_max {a b:List Int} (ha:knowOk a = true) (hb:knowOk b = true) (d:GDot):knows (knowMax a b) d = true ↔ knows a d = true ∨ knows b d = true:=by
  obtain ⟨h1,h2,h3⟩:=knowMax_spec ha hb
  simp only [knows,h1,ha,hb,Bool.true_and,Bool.and_eq_true,decide_eq_true_eq]
  constructor
  · rintro ⟨hd,hs⟩
    have hr:d.rep.toNat < 3:=by simp only [dotOk,spIn,Bool.and_eq_true,decide_eq_true_eq] at hd; omega
    rw [h3 _ hr] at hs
    by_cases e:d.seq ≤ nth a d.rep.toNat
    · exact .inl ⟨hd,e⟩
    · exact .inr ⟨hd,by omega⟩
  · intro h
    have hd:dotOk d = true:=by rcases h with h | h <;> exact h.1
    have hr:d.rep.toNat < 3:=by simp only [dotOk,spIn,Bool.and_eq_true,decide_eq_true_eq] at hd; omega
    refine ⟨hd,?_⟩
    rw [h3 _ hr]
    rcases h with h | h
    · have:=h.2; omega
    · have:=h.2; omega
theorem livB_mem {a b:GState} {x:GLive}:x ∈ livB a b b.lives.length ↔ (x ∈ a.lives ∧ keepA b x = true) ∨ (x ∈ b.lives ∧ newB a x = true):=by
  unfold livB
  rw [(insN_perm liveLt (newB a) (livA a b a.lives.length) b.lives b.lives.length).mem_iff,filK_mem (Nat.le_refl _)]
  have e1:x ∈ livA a b a.lives.length ↔ x ∈ a.lives ∧ keepA b x = true:=by
    unfold livA
    rw [filK_filter _ _ _ (Nat.le_refl _),List.take_length,List.mem_filter]
  rw [e1]
  constructor
  · rintro (h | ⟨i,hi,rfl,hp⟩)
    · exact .inl h
    · exact .inr ⟨nth_mem hi,hp⟩
  · rintro (h | ⟨h,hp⟩)
    · exact .inl h
    · obtain ⟨i,hi,e⟩:=mem_nth h
      exact .inr ⟨i,hi,e,hp⟩
theorem talTwo_mem {ka kb:List Int} {x y:List GTally} (hx:x.Pairwise fun a b => tallyLt a b = true) (hy:y.Pairwise fun a b => tallyLt a b = true) {t:GTally}:t ∈ talTwo ka kb x y ↔ (t ∈ x ∧ noMore ka kb t = true) ∨ (t ∈ y ∧ more ka kb t = true):=by
  rw [(talTwo_perm hx hy).2.mem_iff,filK_mem (Nat.le_refl _),filK_filter _ _ _ (Nat.le_refl _),List.take_length,List.mem_filter]
  constructor
  · rintro (h | ⟨i,hi,rfl,hp⟩)
    · exact .inl h
    · exact .inr ⟨nth_mem hi,hp⟩
  · rintro (h | ⟨h,hp⟩)
    · exact .inl h
    · obtain ⟨i,hi,e⟩:=mem_nth h
      exact .inr ⟨i,hi,e,hp⟩
def goneIn (b:List GCell) (d:GDot):Bool:=b.any fun y => decide (y.dot = d) && y.gone
theorem goneIn_iff {b:List GCell} {d:GDot}:goneIn b d = true ↔ ∃ y,y ∈ b ∧ y.dot = d ∧ y.gone = true:=by
  simp [goneIn]
theorem goneAt_memI {l:List GCell} {d:GDot} {g:Bool} {c:GCell}:c ∈ goneAt l d g ↔ ∃ y,y ∈ l ∧ c = if y.dot = d then { y with gone:=y.gone || g } else y:=by
  unfold goneAt
  rw [List.mem_map]
  constructor
  · rintro ⟨y,h,e⟩; exact ⟨y,h,e.symm⟩
  · rintro ⟨y,h,e⟩; exact ⟨y,h,e.symm⟩
theorem cellsA_mem {a b:List GCell}:∀ {n:Nat},n ≤ b.length → ∀ {c:GCell},c ∈ cellsA a b n ↔ (∃ x,x ∈ a ∧ c = { x with gone:=x.gone || goneIn (b.take n) x.dot }) ∨ ((∃ i:Nat,i < n ∧ c = nth b i) ∧ hasDot a c.dot = false)
  | 0,_,c => by
    simp only [cellsA,List.take_zero,goneIn,List.any_nil,Bool.or_false]
    constructor
    · intro h; exact .inl ⟨c,h,rfl⟩
    · rintro (⟨x,h,rfl⟩ | ⟨⟨i,hi,_⟩,_⟩)
      · exact h
      · omega
  | n + 1,hn,c => by
    have ih:=fun c => cellsA_mem (a:=a) (b:=b) (n:=n) (by omega) (c:=c)
    have hg:∀ d,goneIn (b.take (n + 1)) d = (goneIn (b.take n) d || (decide ((nth b n).dot = d) && (nth b n).gone)):=fun d => by
      rw [take_snoc (by omega)]
      simp [goneIn]
    rw [cellsA]
    split
    · rename_i hd
      rw [goneAt_memI]
      constructor
      · rintro ⟨y,hy,rfl⟩
        rcases (ih y).1 hy with ⟨x,hx,rfl⟩ | ⟨⟨i,hi,rfl⟩,hno⟩
        · left
          refine ⟨x,hx,?_⟩
          rw [hg]
          by_cases e:x.dot = (nth b n).dot
          · simp [e,Bool.or_assoc]
          · have e':¬ (nth b n).dot = x.dot:=fun h => e h.symm
            simp [e,e']
        · right
          have hne:¬ (nth b i).dot = (nth b n).dot:=fun e => by rw [e,hd] at hno; cases hno
          rw [if_neg hne]
          exact ⟨⟨i,by omega,rfl⟩,hno⟩
      · rintro (⟨x,hx,rfl⟩ | ⟨⟨i,hi,rfl⟩,hno⟩)
        · refine ⟨{ x with gone:=x.gone || goneIn (b.take n) x.dot },(ih _).2 (.inl ⟨x,hx,rfl⟩),?_⟩
          rw [hg]
          by_cases e:x.dot = (nth b n).dot
          · simp [e,Bool.or_assoc]
          · have e':¬ (nth b n).dot = x.dot:=fun h => e h.symm
            simp [e,e']
        · have hin:i ≠ n:=fun e => by rw [e,hd] at hno; cases hno
          have hne:¬ (nth b i).dot = (nth b n).dot:=fun e => by rw [e,hd] at hno; cases hno
          exact ⟨nth b i,(ih _).2 (.inr ⟨⟨i,by omega,rfl⟩,hno⟩),by rw [if_neg hne]⟩
    · rename_i hd
      simp only [Bool.not_eq_true] at hd
      rw [List.mem_append,List.mem_singleton,ih]
      have hx0:∀ x,x ∈ a → (decide ((nth b n).dot = x.dot) && (nth b n).gone) = false:=fun x hx => by
        have:¬ (nth b n).dot = x.dot:=fun e => by
          have:=hasDot_iff.2 ⟨x,hx,e.symm⟩
          rw [hd] at this; cases this
        simp [this]
      constructor
      · rintro ((⟨x,hx,rfl⟩ | ⟨⟨i,hi,rfl⟩,hno⟩) | rfl)
        · left; exact ⟨x,hx,by rw [hg,hx0 x hx,Bool.or_false]⟩
        · right; exact ⟨⟨i,by omega,rfl⟩,hno⟩
        · right; exact ⟨⟨n,by omega,rfl⟩,hd⟩
      · rintro (⟨x,hx,rfl⟩ | ⟨⟨i,hi,rfl⟩,hno⟩)
        · left; left; exact ⟨x,hx,by rw [hg,hx0 x hx,Bool.or_false]⟩
        · by_cases e:i = n
          · subst e; right; rfl
          · left; right; exact ⟨⟨i,by omega,rfl⟩,hno⟩
theorem cellsU_mem {a b:List GCell} {c:GCell}:c ∈ cellsU a b ↔ (∃ x,x ∈ a ∧ c = { x with gone:=x.gone || goneIn b x.dot }) ∨ (c ∈ b ∧ hasDot a c.dot = false):=by
  unfold cellsU
  rw [(cellsI_perm a b b.length).mem_iff,cellsA_mem (Nat.le_refl _),List.take_length]
  constructor
  · rintro (h | ⟨⟨i,hi,rfl⟩,h⟩)
    · exact .inl h
    · exact .inr ⟨nth_mem hi,h⟩
  · rintro (h | ⟨h1,h⟩)
    · exact .inl h
    · obtain ⟨i,hi,e⟩:=mem_nth h1
      exact .inr ⟨⟨i,hi,e.symm⟩,h⟩
end Am
namespace Am
open Go
theorem sumV_filter (o:ByteArray) (r:Int):∀ D:List GAct,sumV o r D = sumV o r (D.filter (counts o r))
  | [] => rfl
  | a :: D => by
    have ih:=sumV_filter o r D
    cases h:counts o r a
    · rw [List.filter_cons_of_neg (by simp [h]),sumV,h,← ih]; rfl
    · rw [List.filter_cons_of_pos h,sumV,sumV,h,ih]
theorem sumV_same {o:ByteArray} {r:Int} {D D':List GAct} (h1:(D.map (·.dot)).Nodup) (h2:(D'.map (·.dot)).Nodup) (h:∀ a,counts o r a = true → (a ∈ D ↔ a ∈ D')):sumV o r D = sumV o r D':=by
  rw [sumV_filter o r D,sumV_filter o r D']
  refine sumV_perm ((List.perm_ext_iff_of_nodup ((nod_map h1).filter _) ((nod_map h2).filter _)).2 fun a => ?_)
  rw [List.mem_filter,List.mem_filter]
  constructor
  · rintro ⟨q1,q2⟩; exact ⟨(h a q2).1 q1,q2⟩
  · rintro ⟨q1,q2⟩; exact ⟨(h a q2).2 q1,q2⟩
theorem knowIn_of {k m:List Int} (hk:knowOk k = true) (hm:knowOk m = true) (h:∀ j:Nat,j < 3 → nth k j ≤ nth m j):knowIn k m = true:=by
  simp only [knowIn,hk,hm,Bool.true_and,decide_eq_true_eq]
  simp only [knowOk,Bool.and_eq_true,decide_eq_true_eq] at hk
  intro j hj
  exact h j (by omega)
theorem knowIn_at {k m:List Int} (h:knowIn k m = true):knowOk k = true ∧ knowOk m = true ∧ ∀ j:Nat,j < 3 → nth k j ≤ nth m j:=by
  simp only [knowIn,Bool.and_eq_true,decide_eq_true_eq] at h
  have hk:=h.1.1
  simp only [knowOk,Bool.and_eq_true,decide_eq_true_eq] at hk
  exact ⟨h.1.1,h.1.2,fun j hj => h.2 j (by omega)⟩
theorem puts_dot {a:GAct} {x:GLive} (h:puts a x):x.dot = a.dot:=by
  rcases h with ⟨_,e⟩ | ⟨_,e⟩ <;> rw [e]
theorem canon_mergeRaw {D1 D2 D:List GAct} {s1 s2:GState} (h1:Canon D1 s1) (h2:Canon D2 s2) (hD:∀ a,a ∈ D ↔ a ∈ D1 ∨ a ∈ D2) (hn:(D.map (·.dot)).Nodup) (hl:D.length ≤ 120):Canon D (mergeRaw s1 s2):=by
  have same:∀ {a b:GAct},a ∈ D1 → b ∈ D2 → a.dot = b.dot → a = b:=fun ha hb e => nodup_inj hn ((hD _).2 (.inl ha)) ((hD _).2 (.inr hb)) e
  have in1:∀ {b:GAct},b ∈ D2 → knows s1.know b.dot = true → b ∈ D1:=fun {b} hb hk => by
    obtain ⟨a,ha,e⟩:=(h1.know _).1 hk
    rw [← same ha hb e]; exact ha
  have in2:∀ {a:GAct},a ∈ D1 → knows s2.know a.dot = true → a ∈ D2:=fun {a} ha hk => by
    obtain ⟨b,hb,e⟩:=(h2.know _).1 hk
    rw [same ha hb e.symm]; exact hb
  have k1:=h1.sok.k
  have k2:=h2.sok.k
  obtain ⟨km,kl,kn⟩:=knowMax_spec k1 k2
  have rng:∀ {a:GAct},a ∈ D → 0 ≤ a.dot.rep ∧ a.dot.rep < 3:=fun {a} ha => by
    have:actOk a = true:=by
      rcases (hD a).1 ha with ha | ha
      · exact (h1.acts a ha).1
      · exact (h2.acts a ha).1
    have:=dot_of this
    omega
  have kn1:∀ {a:GAct},a ∈ D1 → knows s1.know a.dot = true:=fun ha => (h1.know _).2 ⟨_,ha,rfl⟩
  have kn2:∀ {a:GAct},a ∈ D2 → knows s2.know a.dot = true:=fun ha => (h2.know _).2 ⟨_,ha,rfl⟩
  have mono:∀ {k m:List Int} {d:GDot},knowOk m = true → nth k d.rep.toNat ≤ nth m d.rep.toNat → knows k d = true → knows m d = true:=fun {k m d} hm hle hk => by
    simp only [knows,hm,Bool.true_and,Bool.and_eq_true,decide_eq_true_eq] at hk ⊢
    exact ⟨hk.1.2,by omega⟩
  -- what is counted
  have cnt1:∀ {o:ByteArray} {r:Int},nth s2.know r.toNat ≤ nth s1.know r.toNat → ∀ a,counts o r a = true → (a ∈ D ↔ a ∈ D1):=fun {o r} hle a hc => by
    simp only [counts,decide_eq_true_eq] at hc
    rw [hD]
    constructor
    · rintro (ha | ha)
      · exact ha
      · exact in1 ha (mono k1 (by rw [hc.2.2]; exact hle) (kn2 ha))
    · exact .inl
  have cnt2:∀ {o:ByteArray} {r:Int},nth s1.know r.toNat ≤ nth s2.know r.toNat → ∀ a,counts o r a = true → (a ∈ D ↔ a ∈ D2):=fun {o r} hle a hc => by
    simp only [counts,decide_eq_true_eq] at hc
    rw [hD]
    constructor
    · rintro (ha | ha)
      · exact in2 ha (mono k2 (by rw [hc.2.2]; exact hle) (kn1 ha))
      · exact ha
    · exact .inr
  have tal:∀ t:GTally,t ∈ (mergeRaw s1 s2).tallies ↔ (∃ a,a ∈ D ∧ counts t.obj t.rep a = true) ∧ t.sum = sumV t.obj t.rep D % 1000000:=by
    intro t
    show t ∈ talTwo s1.know s2.know s1.tallies s2.tallies ↔ _
    rw [talTwo_mem h1.sok.t3 h2.sok.t3,h1.tal,h2.tal]
    simp only [noMore,more,decide_eq_true_eq]
    rcases Int.lt_or_le (nth s1.know t.rep.toNat) (nth s2.know t.rep.toNat) with g | g
    · have hc:=cnt2 (o:=t.obj) (r:=t.rep) (by omega)
      have e:=sumV_same hn h2.nod hc
      rw [e]
      constructor
      · rintro (⟨_,hh⟩ | ⟨⟨⟨a,ha,q⟩,hs⟩,_⟩)
        · omega
        · exact ⟨⟨a,(hc a q).2 ha,q⟩,hs⟩
      · rintro ⟨⟨a,ha,q⟩,hs⟩
        exact .inr ⟨⟨⟨a,(hc a q).1 ha,q⟩,hs⟩,g⟩
    · have hc:=cnt1 (o:=t.obj) (r:=t.rep) g
      have e:=sumV_same hn h1.nod hc
      rw [e]
      constructor
      · rintro (⟨⟨⟨a,ha,q⟩,hs⟩,_⟩ | ⟨_,hh⟩)
        · exact ⟨⟨a,(hc a q).2 ha,q⟩,hs⟩
        · omega
      · rintro ⟨⟨a,ha,q⟩,hs⟩
        exact .inl ⟨⟨⟨a,(hc a q).1 ha,q⟩,hs⟩,g⟩
  -- lives
  have no1:∀ {x:GLive} {y:GAct},y ∈ D1 → takes y x → knows s1.know x.dot = true:=fun hy ht => knows_in (h1.acts _ hy).2 ht.2.2.1
  have no2:∀ {x:GLive} {y:GAct},y ∈ D2 → takes y x → knows s2.know x.dot = true:=fun hy ht => knows_in (h2.acts _ hy).2 ht.2.2.1
  have liv:∀ x:GLive,x ∈ (mergeRaw s1 s2).lives ↔ (∃ a,a ∈ D ∧ puts a x) ∧ ¬ ∃ y,y ∈ D ∧ takes y x:=by
    intro x
    show x ∈ livB s1 s2 s2.lives.length ↔ _
    rw [livB_mem]
    simp only [keepA,newB,Bool.or_eq_true,Bool.not_eq_true',hasX,decide_eq_true_eq]
    constructor
    · rintro (⟨hx,hk⟩ | ⟨hx,hk⟩)
      · obtain ⟨⟨a,ha,hp⟩,hno⟩:=(h1.liv x).1 hx
        refine ⟨⟨a,(hD a).2 (.inl ha),hp⟩,?_⟩
        rintro ⟨y,hy,ht⟩
        rcases (hD y).1 hy with hy | hy
        · exact hno ⟨y,hy,ht⟩
        · rcases hk with hk | hk
          · rw [no2 hy ht] at hk; cases hk
          · exact ((h2.liv x).1 hk).2 ⟨y,hy,ht⟩
      · obtain ⟨⟨a,ha,hp⟩,hno⟩:=(h2.liv x).1 hx
        refine ⟨⟨a,(hD a).2 (.inr ha),hp⟩,?_⟩
        rintro ⟨y,hy,ht⟩
        rcases (hD y).1 hy with hy | hy
        · rw [no1 hy ht] at hk; cases hk
        · exact hno ⟨y,hy,ht⟩
    · rintro ⟨⟨a,ha,hp⟩,hno⟩
      have n1:¬ ∃ y,y ∈ D1 ∧ takes y x:=fun ⟨y,hy,ht⟩ => hno ⟨y,(hD y).2 (.inl hy),ht⟩
      have n2:¬ ∃ y,y ∈ D2 ∧ takes y x:=fun ⟨y,hy,ht⟩ => hno ⟨y,(hD y).2 (.inr hy),ht⟩
      have hd:=puts_dot hp
      have c1:a ∈ D1 → (x ∈ s1.lives ∧ (knows s2.know x.dot = false ∨ x ∈ s2.lives)):=fun ha => by
        refine ⟨(h1.liv x).2 ⟨⟨a,ha,hp⟩,n1⟩,?_⟩
        cases hk:knows s2.know x.dot
        · exact .inl rfl
        · right
          rw [hd] at hk
          exact (h2.liv x).2 ⟨⟨a,in2 ha hk,hp⟩,n2⟩
      rcases (hD a).1 ha with ha | ha
      · exact .inl (c1 ha)
      · cases hk:knows s1.know x.dot
        · exact .inr ⟨(h2.liv x).2 ⟨⟨a,ha,hp⟩,n2⟩,rfl⟩
        · rw [hd] at hk
          exact .inl (c1 (in1 ha hk))
  -- cells
  have cut:∀ d,isCut D d ↔ isCut D1 d ∨ isCut D2 d:=fun d => by
    constructor
    · rintro ⟨y,hy,q⟩
      rcases (hD y).1 hy with hy | hy
      · exact .inl ⟨y,hy,q⟩
      · exact .inr ⟨y,hy,q⟩
    · rintro (⟨y,hy,q⟩ | ⟨y,hy,q⟩)
      · exact ⟨y,(hD y).2 (.inl hy),q⟩
      · exact ⟨y,(hD y).2 (.inr hy),q⟩
  have cutk1:∀ {d:GDot},isCut D1 d → knows s1.know d = true:=fun {d} ⟨y,hy,q,e⟩ => by
    have:=ref_known (h1.acts y hy).1 q
    rw [e] at this
    exact knows_in (h1.acts y hy).2 this
  have cutk2:∀ {d:GDot},isCut D2 d → knows s2.know d = true:=fun {d} ⟨y,hy,q,e⟩ => by
    have:=ref_known (h2.acts y hy).1 q
    rw [e] at this
    exact knows_in (h2.acts y hy).2 this
  have at2:∀ {a:GAct},a ∈ D2 → a.kind = 6 → ∃ g:Bool,celOf a g ∈ s2.cs ∧ (g = true ↔ isCut D2 a.dot):=fun {a} ha h6 => by
    by_cases q:isCut D2 a.dot
    · exact ⟨true,(h2.cel _).2 ⟨a,ha,h6,rfl,by simpa [celOf] using q⟩,by simpa using q⟩
    · exact ⟨false,(h2.cel _).2 ⟨a,ha,h6,rfl,by simpa [celOf] using q⟩,by simpa using q⟩
  have at1:∀ {a:GAct},a ∈ D1 → a.kind = 6 → ∃ g:Bool,celOf a g ∈ s1.cs ∧ (g = true ↔ isCut D1 a.dot):=fun {a} ha h6 => by
    by_cases q:isCut D1 a.dot
    · exact ⟨true,(h1.cel _).2 ⟨a,ha,h6,rfl,by simpa [celOf] using q⟩,by simpa using q⟩
    · exact ⟨false,(h1.cel _).2 ⟨a,ha,h6,rfl,by simpa [celOf] using q⟩,by simpa using q⟩
  have gin:∀ {a:GAct},a ∈ D1 → a.kind = 6 → (goneIn s2.cs a.dot = true ↔ isCut D2 a.dot):=fun {a} ha h6 => by
    rw [goneIn_iff]
    constructor
    · rintro ⟨y,hy,e,g⟩
      obtain ⟨b,hb,_,e2,e3⟩:=(h2.cel y).1 hy
      have e4:y.dot = b.dot:=by rw [e2]; rfl
      rw [← e,e4]
      exact e3.1 g
    · intro hc
      have ha2:=in2 ha (cutk2 hc)
      obtain ⟨g,hg,hgi⟩:=at2 ha2 h6
      exact ⟨_,hg,rfl,hgi.2 hc⟩
  have cel:∀ c:GCell,c ∈ (mergeRaw s1 s2).cs ↔ ∃ a,a ∈ D ∧ a.kind = 6 ∧ c = celOf a c.gone ∧ (c.gone = true ↔ isCut D a.dot):=by
    intro c
    show c ∈ cellsU s1.cs s2.cs ↔ _
    rw [cellsU_mem]
    constructor
    · rintro (⟨x,hx,rfl⟩ | ⟨hc,hno⟩)
      · obtain ⟨a,ha,h6,e,hg⟩:=(h1.cel x).1 hx
        have ed:x.dot = a.dot:=by rw [e]; rfl
        refine ⟨a,(hD a).2 (.inl ha),h6,?_,?_⟩
        · rw [e]; rfl
        · simp only [Bool.or_eq_true]
          rw [cut,hg,ed,gin ha h6]
      · obtain ⟨b,hb,h6,e,hg⟩:=(h2.cel c).1 hc
        refine ⟨b,(hD b).2 (.inr hb),h6,e,?_⟩
        rw [cut,hg]
        constructor
        · exact .inr
        · rintro (q | q)
          · exfalso
            obtain ⟨g,hg1,_⟩:=at1 (in1 hb (cutk1 q)) h6
            have:hasDot s1.cs c.dot = true:=hasDot_iff.2 ⟨_,hg1,by rw [e]; rfl⟩
            rw [hno] at this; cases this
          · exact q
    · rintro ⟨a,ha,h6,e,hg⟩
      have one:a ∈ D1 → ∃ x,x ∈ s1.cs ∧ c = { x with gone:=x.gone || goneIn s2.cs x.dot }:=fun ha => by
        obtain ⟨g,hg1,hg2⟩:=at1 ha h6
        refine ⟨_,hg1,?_⟩
        have:c.gone = (g || goneIn s2.cs a.dot):=by
          rw [Bool.eq_iff_iff,Bool.or_eq_true,hg,cut,hg2,gin ha h6]
        rw [e,this]; rfl
      rcases (hD a).1 ha with ha1 | ha2
      · exact .inl (one ha1)
      · by_cases hk:knows s1.know a.dot = true
        · exact .inl (one (in1 ha2 hk))
        · right
          refine ⟨(h2.cel c).2 ⟨a,ha2,h6,e,?_⟩,?_⟩
          · rw [hg,cut]
            constructor
            · rintro (q | q)
              · exact absurd (cutk1 q) hk
              · exact q
            · exact .inr
          · cases hq:hasDot s1.cs c.dot
            · rfl
            · exfalso
              obtain ⟨x,hx,ex⟩:=hasDot_iff.1 hq
              have:=(h1.sok.c2 x hx).1
              rw [ex,e] at this
              exact hk this
  have hacts:∀ a,a ∈ D → actOk a = true ∧ knowIn a.knew (mergeRaw s1 s2).know = true:=fun a ha => by
    rcases (hD a).1 ha with ha | ha
    · obtain ⟨q1,q2⟩:=h1.acts a ha
      obtain ⟨p1,p2,p3⟩:=knowIn_at q2
      refine ⟨q1,knowIn_of p1 km fun j hj => ?_⟩
      show nth a.knew j ≤ nth (knowMax s1.know s2.know) j
      rw [kn j hj]; have:=p3 j hj; omega
    · obtain ⟨q1,q2⟩:=h2.acts a ha
      obtain ⟨p1,p2,p3⟩:=knowIn_at q2
      refine ⟨q1,knowIn_of p1 km fun j hj => ?_⟩
      show nth a.knew j ≤ nth (knowMax s1.know s2.know) j
      rw [kn j hj]; have:=p3 j hj; omega
  have hknow:∀ d,knows (mergeRaw s1 s2).know d = true ↔ ∃ a,a ∈ D ∧ a.dot = d:=fun d => by
    show knows (knowMax s1.know s2.know) d = true ↔ _
    rw [knows_max k1 k2,h1.know,h2.know]
    constructor
    · rintro (⟨a,ha,e⟩ | ⟨a,ha,e⟩)
      · exact ⟨a,(hD a).2 (.inl ha),e⟩
      · exact ⟨a,(hD a).2 (.inr ha),e⟩
    · rintro ⟨a,ha,e⟩
      rcases (hD a).1 ha with ha | ha
      · exact .inl ⟨a,ha,e⟩
      · exact .inr ⟨a,ha,e⟩
  have lk:∀ {α:Type} {l:List α} (f:α → GDot),(l.map f).Nodup → (∀ x,x ∈ l → ∃ a,a ∈ D ∧ a.dot = f x) → l.length ≤ 120:=fun {α l} f hnd hx => by
    have:=nodup_len (m:=D.map (·.dot)) hnd (fun d hd => by
      obtain ⟨x,hm,rfl⟩:=List.mem_map.1 hd
      obtain ⟨a,ha,e⟩:=hx x hm
      exact List.mem_map.2 ⟨a,ha,e⟩)
    simp only [List.length_map] at this
    omega
  have t3:(mergeRaw s1 s2).tallies.Pairwise fun a b => tallyLt a b = true:=(talTwo_perm h1.sok.t3 h2.sok.t3).1
  have l3:(mergeRaw s1 s2).lives.Pairwise fun a b => liveLt a b = true:=(livB_sorted (of_sok h1.sok) (of_sok h2.sok)).1
  have c3:(mergeRaw s1 s2).cs.Pairwise fun a b => cellLt a b = true:=cellsI_sorted h1.sok.c3 h2.sok.c3 _ (Nat.le_refl _)
  have sok:SOK (mergeRaw s1 s2):=by
    refine ⟨km,?_,fun t ht => ?_,t3,?_,fun x hx => ?_,l3,?_,fun c hc => ?_,c3,fun c hc => ?_⟩
    · have hnd:((mergeRaw s1 s2).tallies.map fun t => (t.obj,t.rep)).Nodup:=by
        unfold List.Nodup
        rw [List.pairwise_map]
        refine t3.imp fun {a b} hab e => ?_
        simp only [Prod.mk.injEq] at e
        simp [tallyLt,e.1,e.2,strLt_self] at hab
      have:=nodup_len (m:=D.map fun a => (a.obj,a.dot.rep)) hnd (fun d hd => by
        obtain ⟨t,ht,rfl⟩:=List.mem_map.1 hd
        obtain ⟨⟨a,ha,hc⟩,_⟩:=(tal t).1 ht
        simp only [counts,decide_eq_true_eq] at hc
        exact List.mem_map.2 ⟨a,ha,by rw [hc.2.1,hc.2.2]⟩)
      simp only [List.length_map] at this
      omega
    · rcases (talTwo_mem h1.sok.t3 h2.sok.t3).1 ht with ⟨q,_⟩ | ⟨q,_⟩
      · exact h1.sok.t2 t q
      · exact h2.sok.t2 t q
    · refine lk (·.dot) (pw_nodup before_Lt (by rw [List.pairwise_map]; exact l3)) fun x hx => ?_
      obtain ⟨⟨a,ha,hp⟩,_⟩:=(liv x).1 hx
      exact ⟨a,ha,(puts_dot hp).symm⟩
    · rcases livB_mem.1 hx with ⟨q,_⟩ | ⟨q,_⟩
      · obtain ⟨r1,r2⟩:=h1.sok.l2 x q
        exact ⟨(knows_max k1 k2 _).2 (.inl r1),r2⟩
      · obtain ⟨r1,r2⟩:=h2.sok.l2 x q
        exact ⟨(knows_max k1 k2 _).2 (.inr r1),r2⟩
    · refine lk (·.dot) (pw_nodup before_Lt (by rw [List.pairwise_map]; exact c3)) fun x hx => ?_
      obtain ⟨a,ha,_,e,_⟩:=(cel x).1 hx
      exact ⟨a,ha,by rw [e]; rfl⟩
    · rcases cellsU_mem.1 hc with ⟨x,q,rfl⟩ | ⟨q,_⟩
      · obtain ⟨r1,r2⟩:=h1.sok.c2 x q
        exact ⟨(knows_max k1 k2 _).2 (.inl r1),r2⟩
      · obtain ⟨r1,r2⟩:=h2.sok.c2 c q
        exact ⟨(knows_max k1 k2 _).2 (.inr r1),r2⟩
    · have there1:∀ y,y ∈ s1.cs → ∃ z,z ∈ (mergeRaw s1 s2).cs ∧ z.dot = y.dot ∧ z.obj = y.obj ∧ z.time = y.time:=fun y hy => ⟨_,cellsU_mem.2 (.inl ⟨y,hy,rfl⟩),rfl,rfl,rfl⟩
      have there2:∀ y,y ∈ s2.cs → ∃ z,z ∈ (mergeRaw s1 s2).cs ∧ z.dot = y.dot ∧ z.obj = y.obj ∧ z.time = y.time:=fun y hy => by
        cases hq:hasDot s1.cs y.dot
        · exact ⟨y,cellsU_mem.2 (.inr ⟨hy,hq⟩),rfl,rfl,rfl⟩
        · obtain ⟨x,hx,ex⟩:=hasDot_iff.1 hq
          obtain ⟨z,z1,z2,z3,z4⟩:=there1 x hx
          obtain ⟨a,ha,_,e1,_⟩:=(h1.cel x).1 hx
          obtain ⟨b,hb,_,e2,_⟩:=(h2.cel y).1 hy
          have hab:a = b:=same ha hb (by
            have q1:x.dot = a.dot:=by rw [e1]; rfl
            have q2:y.dot = b.dot:=by rw [e2]; rfl
            rw [← q1,← q2,ex])
          refine ⟨z,z1,by rw [z2,ex],?_,?_⟩
          · rw [z3,e1,e2,hab]; rfl
          · rw [z4,e1,e2,hab]; rfl
      rcases cellsU_mem.1 hc with ⟨x,q,rfl⟩ | ⟨q,_⟩
      · rcases h1.sok.c4 x q with e | ⟨y,hy,y1,y2,y3⟩
        · exact .inl e
        · obtain ⟨z,z1,z2,z3,z4⟩:=there1 y hy
          exact .inr ⟨z,z1,by rw [z2,y1],by rw [z3,y2],by rw [z4]; exact y3⟩
      · rcases h2.sok.c4 c q with e | ⟨y,hy,y1,y2,y3⟩
        · exact .inl e
        · obtain ⟨z,z1,z2,z3,z4⟩:=there2 y hy
          exact .inr ⟨z,z1,by rw [z2,y1],by rw [z3,y2],by rw [z4]; exact y3⟩
  exact ⟨sok,hknow,tal,liv,cel,hacts,hn⟩
theorem canon_merge {D1 D2 D:List GAct} {s1 s2:GState} (h1:Canon D1 s1) (h2:Canon D2 s2) (hD:∀ a,a ∈ D ↔ a ∈ D1 ∨ a ∈ D2) (hn:(D.map (·.dot)).Nodup) (hl:D.length ≤ 120):mergeState s1 s2 = mergeRaw s1 s2 ∧ Canon D (mergeState s1 s2):=by
  have hc:=canon_mergeRaw h1 h2 hD hn hl
  have e:mergeState s1 s2 = mergeRaw s1 s2:=by
    unfold mergeState
    rw [if_pos (by rw [of_sok h1.sok,of_sok h2.sok]; rfl),if_pos (of_sok hc.sok)]
  exact ⟨e,by rw [e]; exact hc⟩
end Am
namespace Am
open Go
theorem canon_eq {D D':List GAct} {s s':GState} (h:Canon D s) (h':Canon D' s') (hm:∀ x,x ∈ D ↔ x ∈ D'):s = s' :=
  canon_uniq h h' (perm_of h.nod h'.nod hm)
def Fits (D1 D2:List GAct):Prop:=∀ a b,a ∈ D1 → b ∈ D2 → a.dot = b.dot → a = b
theorem fits_union {D1 D2:List GAct} (h1:(D1.map (·.dot)).Nodup) (h2:(D2.map (·.dot)).Nodup) (hf:Fits D1 D2):∃ D:List GAct,(∀ a,a ∈ D ↔ a ∈ D1 ∨ a ∈ D2) ∧ (D.map (·.dot)).Nodup ∧ D.length ≤ D1.length + D2.length:=by
  classical
  refine ⟨D1 ++ D2.filter (fun x => decide (¬ x ∈ D1)),fun a => ?_,?_,?_⟩
  · rw [List.mem_append,List.mem_filter,decide_eq_true_eq]
    constructor
    · rintro (h | ⟨h,_⟩)
      · exact .inl h
      · exact .inr h
    · rintro (h | h)
      · exact .inl h
      · by_cases q:a ∈ D1
        · exact .inl q
        · exact .inr ⟨h,q⟩
  · rw [List.map_append,List.nodup_append]
    refine ⟨h1,h2.sublist (List.filter_sublist.map _),fun d hd e he heq => ?_⟩
    obtain ⟨a,ha,rfl⟩:=List.mem_map.1 hd
    obtain ⟨b,hb,rfl⟩:=List.mem_map.1 he
    rw [List.mem_filter,decide_eq_true_eq] at hb
    rw [← hf a b ha hb.1 heq] at hb
    exact hb.2 ha
  · rw [List.length_append]
    have:=List.length_filter_le (fun x => decide (¬ x ∈ D1)) D2
    omega
theorem fits_sub {D0 D:List GAct} (h:(D.map (·.dot)).Nodup) (hs:∀ a,a ∈ D0 → a ∈ D):Fits D0 D:=fun a b ha hb e => nodup_inj h (hs a ha) hb e
theorem fits_symm {D1 D2:List GAct} (h:Fits D1 D2):Fits D2 D1:=fun a b ha hb e => (h b a hb ha e.symm).symm
theorem merge_all {D1 D2:List GAct} {s1 s2:GState} (h1:Canon D1 s1) (h2:Canon D2 s2) (hf:Fits D1 D2) (hl:D1.length + D2.length ≤ 120):∃ D,(∀ a,a ∈ D ↔ a ∈ D1 ∨ a ∈ D2) ∧ D.length ≤ D1.length + D2.length ∧ Canon D (mergeState s1 s2) ∧ mergeState s1 s2 = mergeRaw s1 s2:=by
  obtain ⟨D,q1,q2,q3⟩:=fits_union h1.nod h2.nod hf
  obtain ⟨c1,c2⟩:=canon_merge h1 h2 q1 q2 (by omega)
  exact ⟨D,q1,q3,c2,c1⟩
theorem merge_sub {D1 D2:List GAct} {s1 s2:GState} (h1:Canon D1 s1) (h2:Canon D2 s2) (hs:∀ a,a ∈ D1 → a ∈ D2) (hl:D1.length + D2.length ≤ 120):mergeState s1 s2 = s2:=by
  obtain ⟨D,q1,q2,q3,_⟩:=merge_all h1 h2 (fits_sub h2.nod hs) hl
  refine canon_eq q3 h2 fun x => ?_
  rw [q1]
  constructor
  · rintro (h | h)
    · exact hs x h
    · exact h
  · exact .inr
theorem merge_sup {D1 D2:List GAct} {s1 s2:GState} (h1:Canon D1 s1) (h2:Canon D2 s2) (hs:∀ a,a ∈ D2 → a ∈ D1) (hl:D1.length + D2.length ≤ 120):mergeState s1 s2 = s1:=by
  obtain ⟨D,q1,q2,q3,_⟩:=merge_all h1 h2 (fits_symm (fits_sub h1.nod hs)) hl
  refine canon_eq q3 h1 fun x => ?_
  rw [q1]
  constructor
  · rintro (h | h)
    · exact h
    · exact hs x h
  · exact .inl
theorem behind_sub {D1 D2:List GAct} {s1 s2:GState} (h1:Canon D1 s1) (h2:Canon D2 s2) (hs:∀ a,a ∈ D1 → a ∈ D2) (hl:D1.length + D2.length ≤ 120):behind s1 s2 = true:=by
  unfold behind
  rw [of_sok h1.sok,of_sok h2.sok,merge_sub h1 h2 hs hl]
  simp
structure Two (p a b:GState) (D0 D1 D2:List GAct):Prop where
  c0:Canon D0 p
  c1:Canon D1 a
  c2:Canon D2 b
  s1:∀ x,x ∈ D0 → x ∈ D1
  s2:∀ x,x ∈ D0 → x ∈ D2
  r1:∀ x,x ∈ D1 → x ∈ D0 ∨ x.dot.rep = 0
  r2:∀ x,x ∈ D2 → x ∈ D0 ∨ x.dot.rep = 1
  l0:D0.length ≤ 20
  l1:D1.length ≤ 30
  l2:D2.length ≤ 30
theorem know_same {D1 D2:List GAct} {s1 s2:GState} (h1:Canon D1 s1) (h2:Canon D2 s2) (hf:Fits D1 D2) (hk:knowIn s1.know s2.know = true):∀ x,x ∈ D1 → x ∈ D2:=fun x hx => by
  have:=knows_in hk ((h1.know _).2 ⟨x,hx,rfl⟩)
  obtain ⟨y,hy,e⟩:=(h2.know _).1 this
  rw [hf x y hx hy e.symm]; exact hy
theorem know_sub {D1 D2:List GAct} {s1 s2:GState} (h1:Canon D1 s1) (h2:Canon D2 s2) (hs:∀ x,x ∈ D1 → x ∈ D2):knowIn s1.know s2.know = true:=by
  have hk:=h1.sok.k
  have:=know_le h1.sok.k h2.sok.k (fun d hd => by
    obtain ⟨a,ha,e⟩:=(h1.know d).1 hd
    exact (h2.know d).2 ⟨a,hs a ha,e⟩)
  refine knowIn_of h1.sok.k h2.sok.k fun j hj => this j ?_
  simp only [knowOk,Bool.and_eq_true,decide_eq_true_eq] at hk
  omega
end Am
