/- Put in order,one after the other: nothing of the program. No condition. -/
import Derived.Test.YteidfkbfocdnmaaGreatT
import Derived.Test.YteidfkbfocdnmaaGreatD
import Derived.Test.YteidfkbfocdnmaaGreatE16
import Derived.Test.YteidfkbfocdnmaaGreatAm31
import Derived.Test.YteidfkbfocdnmaaGreatE2
import Derived.Test.YteidfkbfocdnmaaGreatE6
set_option linter.unusedSimpArgs false
set_option linter.unusedVariables false
set_option linter.unnecessarySimpa false
set_option linter.unusedSectionVars false
namespace Am
open Go Go.Proofs
section
variable {α:Type} [Cel α] (lt:α → α → Bool)
def insK (x:α) (l:List α):Nat → List α × Bool
  | 0 => ([],false)
  | i + 1 => if (!(insK x l i).2 && lt x (nth l i)) = true then ((insK x l i).1 ++ [x] ++ [nth l i],true) else ((insK x l i).1 ++ [nth l i],(insK x l i).2)
def insF (x:α) (l:List α):List α:=if (insK lt x l l.length).2 = true then (insK lt x l l.length).1 else (insK lt x l l.length).1 ++ [x]
variable {lt}
theorem insK_len (x:α) (l:List α):∀ i,(insK lt x l i).1.length = i + (if (insK lt x l i).2 = true then 1 else 0)
  | 0 => by simp [insK]
  | i + 1 => by
    have ih:=insK_len x l i
    simp only [insK]
    by_cases h:(insK lt x l i).2 = true
    · simp [h] at ih ⊢; omega
    · have h':(insK lt x l i).2 = false:=by simpa using h
      by_cases h2:lt x (nth l i) = true
      · simp [h',h2] at ih ⊢; omega
      · have h2':lt x (nth l i) = false:=by simpa using h2
        simp [h',h2'] at ih ⊢; omega
theorem take_snoc {l:List α} {i:Nat} (h:i < l.length):l.take (i + 1) = l.take i ++ [nth l i]:=by
  rw [List.take_add_one]
  simp [nth,List.getD,h]
theorem insK_spec (x:α) (l:List α):∀ i,i ≤ l.length →
    ((insK lt x l i).2 = false ∧ (insK lt x l i).1 = l.take i ∧ ∀ k,k < i → lt x (nth l k) = false) ∨
    ((insK lt x l i).2 = true ∧ ∃ j,j < i ∧ (insK lt x l i).1 = l.take j ++ x :: (l.take i).drop j ∧ lt x (nth l j) = true ∧ ∀ k,k < j → lt x (nth l k) = false)
  | 0,_ => by left; simp [insK]
  | i + 1,h => by
    rcases insK_spec x l i (by omega) with ⟨h1,h2,h3⟩ | ⟨h1,j,hj,h2,h3,h4⟩
    · cases hl:lt x (nth l i)
      · left
        simp only [insK,h1,hl]
        refine ⟨by simp,by simp [h2,take_snoc (show i < l.length by omega)],fun k hk => ?_⟩
        by_cases e:k = i
        · subst e; exact hl
        · exact h3 k (by omega)
      · right
        simp only [insK,h1,hl]
        refine ⟨by simp,i,by omega,?_,hl,h3⟩
        have e1:(l.take (i + 1)).drop i = [nth l i]:=by
          rw [take_snoc (show i < l.length by omega),List.drop_append]
          simp [List.length_take,Nat.min_eq_left (show i ≤ l.length by omega)]
        rw [e1]
        simp [h2]
    · right
      simp only [insK,h1]
      refine ⟨by simp,j,by omega,?_,h3,h4⟩
      have e1:(l.take (i + 1)).drop j = (l.take i).drop j ++ [nth l i]:=by
        rw [take_snoc (show i < l.length by omega),List.drop_append]
        have:j - (l.take i).length = 0:=by rw [List.length_take]; omega
        rw [this]; simp
      rw [e1]
      simp [h2]
theorem insF_spec (x:α) (l:List α):∃ j,j ≤ l.length ∧ insF lt x l = l.take j ++ x :: l.drop j ∧ (j < l.length → lt x (nth l j) = true) ∧ ∀ k,k < j → lt x (nth l k) = false:=by
  unfold insF
  rcases insK_spec (lt:=lt) x l l.length (Nat.le_refl _) with ⟨h1,h2,h3⟩ | ⟨h1,j,hj,h2,h3,h4⟩
  · refine ⟨l.length,Nat.le_refl _,?_,fun h => absurd h (by omega),h3⟩
    rw [h1]
    simp [h2]
  · refine ⟨j,by omega,?_,fun _ => h3,h4⟩
    rw [h1,if_pos rfl,h2,List.take_length]
theorem insF_perm (x:α) (l:List α):(insF lt x l).Perm (x :: l):=by
  obtain ⟨j,_,e,_⟩:=insF_spec (lt:=lt) x l
  rw [e]
  refine List.perm_middle.trans ?_
  rw [List.take_append_drop]
theorem insF_len (x:α) (l:List α):(insF lt x l).length = l.length + 1:=by
  have:=(insF_perm (lt:=lt) x l).length_eq
  simpa using this
structure Lt (lt:α → α → Bool):Prop where
  asym:∀ a b,lt a b = true → lt b a = false
  trans:∀ a b c,lt a b = true → lt b c = true → lt a c = true
theorem insF_sorted (hL:Lt lt) {x:α} {l:List α} (hs:l.Pairwise (fun a b => lt a b = true)) (hx:∀ y,y ∈ l → lt x y = false → lt y x = true):(insF lt x l).Pairwise (fun a b => lt a b = true):=by
  obtain ⟨j,hj,e,h1,h2⟩:=insF_spec (lt:=lt) x l
  rw [e,List.pairwise_append]
  refine ⟨hs.sublist (List.take_sublist _ _),?_,?_⟩
  · rw [List.pairwise_cons]
    refine ⟨fun y hy => ?_,hs.sublist (List.drop_sublist _ _)⟩
    have hjl:j < l.length:=by
      by_cases h:j < l.length
      · exact h
      · rw [List.drop_eq_nil_of_le (by omega)] at hy; cases hy
    have h3:=h1 hjl
    obtain ⟨k,hk,rfl⟩:=List.mem_iff_getElem.1 hy
    have hn:nth l j = l[j]:=by simp [nth,List.getD,hjl]
    rw [hn] at h3
    rw [List.getElem_drop]
    by_cases e0:k = 0
    · subst e0; exact h3
    · refine hL.trans _ _ _ h3 ?_
      rw [List.pairwise_iff_getElem] at hs
      exact hs j (j + k) hjl (by simp at hk; omega) (by omega)
  · intro a ha b hb
    have hxa:lt a x = true:=by
      obtain ⟨k,hk,rfl⟩:=List.mem_iff_getElem.1 ha
      have hkl:k < l.length:=by simp at hk; omega
      have hkj:k < j:=by simp at hk; omega
      have h3:=h2 k hkj
      have hn:nth l k = l[k]:=by simp [nth,List.getD,hkl]
      rw [hn] at h3
      rw [List.getElem_take]
      exact hx _ (List.getElem_mem hkl) h3
    rcases List.mem_cons.1 hb with rfl | hb
    · exact hxa
    · have hs':=hs
      rw [← List.take_append_drop j l,List.pairwise_append] at hs'
      exact hs'.2.2 a ha b hb
end
theorem before_Lt:Lt before:=⟨fun a b h => by
  simp only [before,Bool.or_eq_true,Bool.and_eq_true,decide_eq_true_eq] at h
  simp only [before,Bool.or_eq_false_iff,Bool.and_eq_false_iff,decide_eq_false_iff_not]
  omega,fun a b c => before_trans⟩
theorem before_tri {a b:GDot} (h:before a b = false) (h':before b a = false):a = b:=by
  simp only [before,Bool.or_eq_false_iff,Bool.and_eq_false_iff,decide_eq_false_iff_not] at h h'
  cases a; cases b
  simp only [GDot.mk.injEq] at *
  omega
theorem bl_trans:∀ x y z:List UInt8,Op.bytesLess x y = true → Op.bytesLess y z = true → Op.bytesLess x z = true
  | [],[],_,h,_ => by simp [Op.bytesLess] at h
  | [],_ :: _,[],_,h => by simp [Op.bytesLess] at h
  | [],_ :: _,_ :: _,_,_ => by simp [Op.bytesLess]
  | _ :: _,[],_,h,_ => by simp [Op.bytesLess] at h
  | _ :: _,_ :: _,[],_,h => by simp [Op.bytesLess] at h
  | a :: x,b :: y,c :: z,h,h' => by
    have ih:=bl_trans x y z
    simp only [Op.bytesLess] at h h' ⊢
    grind
theorem strLt_trans {a b c:ByteArray} (h:strLt a b = true) (h':strLt b c = true):strLt a c = true:=bl_trans _ _ _ h h'
theorem tallyLt_Lt:Lt tallyLt:=⟨fun a b h => by
  simp only [tallyLt,Bool.or_eq_true,Bool.and_eq_true,decide_eq_true_eq] at h
  simp only [tallyLt,Bool.or_eq_false_iff,Bool.and_eq_false_iff,decide_eq_false_iff_not]
  rcases h with h | ⟨h,h2⟩
  · refine ⟨strLt_asymm h,Or.inl fun e => ?_⟩
    rw [e,strLt_self] at h; cases h
  · rw [h]; exact ⟨strLt_self _,Or.inr (by omega)⟩,fun a b c h h' => by
  simp only [tallyLt,Bool.or_eq_true,Bool.and_eq_true,decide_eq_true_eq] at h h' ⊢
  rcases h with h | ⟨h,h2⟩ <;> rcases h' with h' | ⟨h',h2'⟩
  · exact Or.inl (strLt_trans h h')
  · rw [← h']; exact Or.inl h
  · rw [h]; exact Or.inl h'
  · exact Or.inr ⟨h.trans h',by omega⟩⟩
theorem tallyLt_tri {a b:GTally} (h:tallyLt a b = false) (h':tallyLt b a = false):a.obj = b.obj ∧ a.rep = b.rep:=by
  simp only [tallyLt,Bool.or_eq_false_iff,Bool.and_eq_false_iff,decide_eq_false_iff_not] at h h'
  have e:=strLt_tri h.1 h'.1
  refine ⟨e,?_⟩
  rcases h.2 with h2 | h2
  · exact absurd e h2
  · rcases h'.2 with h3 | h3
    · exact absurd e.symm h3
    · omega
end Am
namespace Am
open Go Go.Proofs
section
variable {α:Type} [Cel α]
def filK (p:α → Bool) (base l:List α):Nat → List α
  | 0 => base
  | n + 1 => if p (nth l n) = true then filK p base l n ++ [nth l n] else filK p base l n
def insN (lt:α → α → Bool) (p:α → Bool) (base l:List α):Nat → List α
  | 0 => base
  | n + 1 => if p (nth l n) = true then insF lt (nth l n) (insN lt p base l n) else insN lt p base l n
theorem filK_len (p:α → Bool) (base l:List α):∀ n,(filK p base l n).length ≤ base.length + n
  | 0 => by simp [filK]
  | n + 1 => by
    have:=filK_len p base l n
    simp only [filK]; split
    · simp; omega
    · omega
theorem filK_filter (p:α → Bool) (l:List α):∀ n,n ≤ l.length → filK p [] l n = (l.take n).filter p
  | 0,_ => by simp [filK]
  | n + 1,h => by
    simp only [filK,filK_filter p l n (by omega),take_snoc (show n < l.length by omega),List.filter_append]
    split
    · rename_i hp; simp [hp]
    · rename_i hp; simp [hp]
theorem filK_mem {p:α → Bool} {base l:List α} {x:α}:∀ {n:Nat},n ≤ l.length → (x ∈ filK p base l n ↔ x ∈ base ∨ ∃ i,i < n ∧ nth l i = x ∧ p x = true)
  | 0,_ => by simp [filK]
  | n + 1,h => by
    have ih:=filK_mem (p:=p) (base:=base) (l:=l) (x:=x) (n:=n) (by omega)
    simp only [filK]
    by_cases hp:p (nth l n) = true
    · rw [if_pos hp,List.mem_append,ih,List.mem_singleton]
      constructor
      · rintro ((h1 | ⟨i,h2,h3,h4⟩) | rfl)
        · exact .inl h1
        · exact .inr ⟨i,by omega,h3,h4⟩
        · exact .inr ⟨n,by omega,rfl,hp⟩
      · rintro (h1 | ⟨i,h2,h3,h4⟩)
        · exact .inl (.inl h1)
        · by_cases e:i = n
          · subst e; exact .inr h3.symm
          · exact .inl (.inr ⟨i,by omega,h3,h4⟩)
    · rw [if_neg hp,ih]
      constructor
      · rintro (h1 | ⟨i,h2,h3,h4⟩)
        · exact .inl h1
        · exact .inr ⟨i,by omega,h3,h4⟩
      · rintro (h1 | ⟨i,h2,h3,h4⟩)
        · exact .inl h1
        · by_cases e:i = n
          · subst e; exact absurd (h3 ▸ h4) hp
          · exact .inr ⟨i,by omega,h3,h4⟩
theorem insN_perm (lt:α → α → Bool) (p:α → Bool) (base l:List α):∀ n,(insN lt p base l n).Perm (filK p base l n)
  | 0 => List.Perm.refl _
  | n + 1 => by
    simp only [insN,filK]
    split
    · exact (insF_perm _ _).trans (((insN_perm lt p base l n).cons _).trans (List.perm_append_comm (l₁:=[nth l n])))
    · exact insN_perm lt p base l n
theorem insN_sorted {lt:α → α → Bool} (hL:Lt lt) {p:α → Bool} {base l:List α} (hb:base.Pairwise (fun a b => lt a b = true))
    (hx:∀ i,i < l.length → p (nth l i) = true → ∀ y,(y ∈ base ∨ ∃ j,j < i ∧ nth l j = y ∧ p y = true) → lt (nth l i) y = false → lt y (nth l i) = true) :
    ∀ n,n ≤ l.length → (insN lt p base l n).Pairwise (fun a b => lt a b = true)
  | 0,_ => hb
  | n + 1,h => by
    have ih:=insN_sorted hL hb hx n (by omega)
    simp only [insN]
    split
    · rename_i hp
      refine insF_sorted hL ih fun y hy => hx n (by omega) hp y ?_
      exact (filK_mem (by omega)).1 ((insN_perm lt p base l n).mem_iff.1 hy)
    · exact ih
theorem insN_len (lt:α → α → Bool) (p:α → Bool) (base l:List α) (n:Nat):(insN lt p base l n).length ≤ base.length + n:=by
  rw [(insN_perm lt p base l n).length_eq]; exact filK_len p base l n
theorem pw_nth {l:List α} {r:α → α → Prop} (h:l.Pairwise r) {i j:Nat} (hij:i < j) (hj:j < l.length):r (nth l i) (nth l j):=by
  rw [nth_eq (show i < l.length by omega),nth_eq hj]
  exact List.pairwise_iff_getElem.1 h i j (by omega) hj hij
theorem pw_of_nth {l:List α} {r:α → α → Prop} (h:∀ i j,i < j → j < l.length → r (nth l i) (nth l j)):l.Pairwise r:=by
  rw [List.pairwise_iff_getElem]
  intro i j hi hj hij
  have:=h i j hij hj
  rwa [nth_eq hi,nth_eq hj] at this
theorem mem_nth {l:List α} {x:α} (h:x ∈ l):∃ i,i < l.length ∧ nth l i = x:=by
  obtain ⟨i,hi,e⟩:=List.getElem_of_mem h
  exact ⟨i,hi,by rw [nth_eq hi,e]⟩
end
def liveLt (x y:GLive):Bool:=before x.dot y.dot
def cellLt (x y:GCell):Bool:=before x.dot y.dot
theorem liveLt_Lt:Lt liveLt:=⟨fun a b => before_Lt.asym a.dot b.dot,fun a b c => before_Lt.trans a.dot b.dot c.dot⟩
theorem cellLt_Lt:Lt cellLt:=⟨fun a b => before_Lt.asym a.dot b.dot,fun a b c => before_Lt.trans a.dot b.dot c.dot⟩
theorem before_ne {a b:GDot} (h:a ≠ b) (h2:before a b = false):before b a = true:=by
  cases e:before b a
  · exact absurd (before_tri h2 e) h
  · rfl
def talIs (o:ByteArray) (r:Int) (t:GTally):Bool:=decide (t.obj = o) && (t.rep == r)
def addT (l:List GTally) (o:ByteArray) (r v:Int):List GTally :=
  if 0 ≤ idx (talIs o r) l then l.set (idx (talIs o r) l).toNat ⟨o,r,(IntKind.i64.wrap ((nth l (idx (talIs o r) l).toNat).sum + v)).tmod 1000000⟩ else insF tallyLt ⟨o,r,v⟩ l
def goneAt (l:List GCell) (d:GDot) (g:Bool):List GCell:=l.map fun c => if c.dot = d then { c with gone:=c.gone || g } else c
def hasDot (l:List GCell) (d:GDot):Bool:=l.any fun c => decide (c.dot = d)
def cellsI (a b:List GCell):Nat → List GCell
  | 0 => a
  | n + 1 => if hasDot a (nth b n).dot = true then goneAt (cellsI a b n) (nth b n).dot (nth b n).gone else insF cellLt (nth b n) (cellsI a b n)
def cellsA (a b:List GCell):Nat → List GCell
  | 0 => a
  | n + 1 => if hasDot a (nth b n).dot = true then goneAt (cellsA a b n) (nth b n).dot (nth b n).gone else cellsA a b n ++ [nth b n]
theorem goneAt_len (l:List GCell) (d:GDot) (g:Bool):(goneAt l d g).length = l.length:=by simp [goneAt]
theorem goneAt_dots (l:List GCell) (d:GDot) (g:Bool):(goneAt l d g).map (·.dot) = l.map (·.dot):=by
  simp only [goneAt,List.map_map]
  apply List.map_congr_left
  intro c _
  simp only [Function.comp_def]
  split <;> rfl
theorem goneAt_false (l:List GCell) (d:GDot):goneAt l d false = l:=by
  unfold goneAt
  conv => rhs; rw [← List.map_id l]
  apply List.map_congr_left
  intro c _
  split <;> simp
theorem cellsA_len (a b:List GCell):∀ n,(cellsA a b n).length ≤ a.length + n
  | 0 => by simp [cellsA]
  | n + 1 => by
    have:=cellsA_len a b n
    simp only [cellsA]; split
    · rw [goneAt_len]; omega
    · simp; omega
theorem cellsI_perm (a b:List GCell):∀ n,(cellsI a b n).Perm (cellsA a b n)
  | 0 => List.Perm.refl _
  | n + 1 => by
    simp only [cellsI,cellsA]
    split
    · exact (cellsI_perm a b n).map _
    · exact (insF_perm _ _).trans (((cellsI_perm a b n).cons _).trans (List.perm_append_comm (l₁:=[nth b n])))
theorem cellsI_len (a b:List GCell) (n:Nat):(cellsI a b n).length ≤ a.length + n:=by
  rw [(cellsI_perm a b n).length_eq]; exact cellsA_len a b n
theorem cellsA_dots (a b:List GCell):∀ n,(cellsA a b n).map (·.dot) = a.map (·.dot) ++ (filK (fun c => !hasDot a c.dot) [] b n).map (·.dot)
  | 0 => by simp [cellsA,filK]
  | n + 1 => by
    simp only [cellsA,filK]
    have ih:=cellsA_dots a b n
    by_cases h:hasDot a (nth b n).dot = true
    · rw [if_pos h,goneAt_dots,ih]; simp [h]
    · rw [if_neg h,List.map_append,ih]; simp [h]
def SortC (l:List GCell):Prop:=l.Pairwise fun x y => cellLt x y = true
theorem hasDot_iff {l:List GCell} {d:GDot}:hasDot l d = true ↔ ∃ c,c ∈ l ∧ c.dot = d:=by simp [hasDot]
theorem SortC_dots {l:List GCell}:SortC l ↔ (l.map (·.dot)).Pairwise fun x y => before x y = true:=by
  unfold SortC; rw [List.pairwise_map]; rfl
theorem dots_mem {a b:List GCell} {n:Nat} (hn:n ≤ b.length) {c:GCell} (hc:c ∈ cellsI a b n):hasDot a c.dot = true ∨ ∃ i,i < n ∧ (nth b i).dot = c.dot ∧ hasDot a c.dot = false:=by
  have h1:c.dot ∈ (cellsA a b n).map (·.dot):=List.mem_map_of_mem ((cellsI_perm a b n).mem_iff.1 hc)
  rw [cellsA_dots,List.mem_append] at h1
  rcases h1 with h1 | h1
  · obtain ⟨x,hx,e⟩:=List.mem_map.1 h1
    exact .inl (hasDot_iff.2 ⟨x,hx,e⟩)
  · obtain ⟨x,hx,e⟩:=List.mem_map.1 h1
    rcases (filK_mem hn).1 hx with h2 | ⟨i,hi,e2,hp⟩
    · cases h2
    · refine .inr ⟨i,hi,by rw [e2]; exact e,?_⟩
      rw [← e]; simpa using hp
theorem cellsI_sorted {a b:List GCell} (ha:SortC a) (hb:SortC b):∀ n,n ≤ b.length → SortC (cellsI a b n)
  | 0,_ => ha
  | n + 1,h => by
    have ih:=cellsI_sorted ha hb n (by omega)
    simp only [cellsI]
    split
    · rw [SortC_dots,goneAt_dots,← SortC_dots]; exact ih
    · rename_i hh
      refine insF_sorted cellLt_Lt ih fun y hy h2 => before_ne (fun e => ?_) h2
      rcases dots_mem (by omega) hy with h3 | ⟨i,hi,e2,h3⟩
      · rw [← e] at h3; exact hh h3
      · have:=pw_nth hb hi (by omega)
        simp only [cellLt] at this
        rw [e2,e,before_irr] at this
        cases this
theorem cellsI_has {a b:List GCell} (hb:SortC b) {n:Nat} (hn:n < b.length):hasDot (cellsI a b n) (nth b n).dot = hasDot a (nth b n).dot:=by
  rw [Bool.eq_iff_iff]
  constructor
  · intro h
    obtain ⟨c,hc,e⟩:=hasDot_iff.1 h
    rcases dots_mem (by omega) hc with h3 | ⟨i,hi,e2,h3⟩
    · rw [e] at h3; exact h3
    · have:=pw_nth hb hi hn
      simp only [cellLt] at this
      rw [e2,e,before_irr] at this
      cases this
  · intro h
    obtain ⟨c,hc,e⟩:=hasDot_iff.1 h
    have h1:(nth b n).dot ∈ (cellsA a b n).map (·.dot):=by
      rw [cellsA_dots,List.mem_append]
      exact .inl (e ▸ List.mem_map_of_mem hc)
    obtain ⟨x,hx,e2⟩:=List.mem_map.1 h1
    exact hasDot_iff.2 ⟨x,(cellsI_perm a b n).mem_iff.2 hx,e2⟩
theorem gone_set {l:List GCell} (hs:(l.map (·.dot)).Nodup) {i:Nat} (hi:i < l.length) (g:Bool):l.set i { nth l i with gone:=(nth l i).gone || g } = goneAt l (nth l i).dot g:=by
  apply List.ext_getElem
  · simp [goneAt]
  · intro j h1 h2
    have hj:j < l.length:=by simpa using h1
    simp only [goneAt,List.getElem_map,List.getElem_set]
    by_cases e:i = j
    · subst e; simp [nth_eq hi]
    · rw [if_neg e,if_neg]
      intro e2
      have e4:l[j].dot = l[i].dot:=by rw [e2,nth_eq hi]
      clear e2
      have:=(List.nodup_iff_pairwise_ne.1 hs)
      rw [List.pairwise_iff_getElem] at this
      rcases Nat.lt_or_gt_of_ne e with h3 | h3
      · exact this i j (by simpa using hi) (by simpa using hj) h3 (by simpa using e4.symm)
      · exact this j i (by simpa using hj) (by simpa using hi) h3 (by simpa using e4)
theorem SortC_nodup {l:List GCell} (h:SortC l):(l.map (·.dot)).Nodup:=by
  rw [SortC_dots] at h
  rw [List.nodup_iff_pairwise_ne]
  exact h.imp fun {a b} hab e => by rw [e,before_irr] at hab; cases hab
theorem hasDot_at {l:List GCell} {d:GDot} {i:Nat} (h:i < l.length) (e:(nth l i).dot = d):hasDot l d = true:=hasDot_iff.2 ⟨_,nth_mem h,e⟩
theorem hasDot_no {l:List GCell} {d:GDot} (h:∀ i:Nat,i < l.length → (nth l i).dot ≠ d):hasDot l d = false:=by
  cases e:hasDot l d
  · rfl
  · obtain ⟨c,hc,e2⟩:=hasDot_iff.1 e
    obtain ⟨i,hi,e3⟩:=mem_nth hc
    exact absurd (by rw [e3]; exact e2) (h i hi)
def cellsU (a b:List GCell):List GCell:=cellsI a b b.length
end Am
namespace Am
open Go Go.Proofs
open Cel (cells)
set_option maxRecDepth 100000
@[simp] def h152:Hts:={ merge:=fun _ => false,mergeF:=fun f => f == 277,dr:=fun id => if id = 6 then [{},{},{},{},{},{},{},{},{},{},{ cr:=true },{}] else [] }
set_option maxHeartbeats 1000000 in
theorem f152_ok (l:List GLive) (x:GLive) (ha:l.length ≤ 1000000000):FnR Tryz.prog 152 [.v (.im l.length (flat l)),.agg [.bool x.map,.str x.obj,.str x.key,.int .i64 x.val,.int .i64 x.dot.rep,.int .i64 x.dot.seq]] (.v (.ow 159 6 (insF liveLt x l).length (flat (insF liveLt x l)))):=by
  refine FnW.of_AW TryzT_ok 0 (fn:=Tryz.f152) (by kernel_rfl) rfl (by kernel_rfl) rfl rfl rfl ?_; refine AW_of h152 TryzT_ok (by kernel_rfl) ?_
  simp -dsimp
  refine AWh_loop (fun i:Nat => i ≤ l.length) (fun i => mkE [(0,.c (.im l.length (flat l))),(3,.box 192 0),(5,.arr 512),(6,.c (.bool (insK liveLt x l i).2)),(7,.c (.int .i64 i))] [(192,.box [.c (.bool x.map),.c (.str x.obj),.c (.str x.key),.c (.int .i64 x.val),.c (.int .i64 x.dot.rep),.c (.int .i64 x.dot.seq)]),(512,.arr 0 159 6 (insK liveLt x l i).1.length (flat (insK liveLt x l i).1))]) (fun i => l.length - i) 0 (Wk_to [0,3,5,6,7] [(192,192),(512,512)] rfl rfl (by simp [insK])) (by simp) ?_
  rintro i hi
  have hkl:=insK_len (lt:=liveLt) x l i
  have hkl':(insK liveLt x l i).1.length ≤ i + 1:=by split at hkl <;> omega
  refine AW_of h152 TryzT_ok (by kernel_rfl) ?_
  rcases Nat.lt_or_ge i l.length with h1 | h1
  · cases g:(insK liveLt x l i).2
    · simp -dsimp [h1,ne_of_lt h1]
      repeat (first|refine ⟨by omega,?_⟩|refine ⟨by simp [capMax];omega,?_⟩|refine ⟨⟨by omega,by omega⟩,?_⟩)
      refine ACallK_of (f277_ok _ _) ?_
      cases g2:liveLt x (nth l i)
      · have g3:=g2
        simp only [liveLt] at g3
        simp -dsimp [g3,h1,ne_of_lt h1]
        repeat (first|refine ⟨by omega,?_⟩|refine ⟨by simp [capMax];omega,?_⟩|refine ⟨⟨by omega,by omega⟩,?_⟩)
        exact Back_of (i + 1) [0,3,5,6,7] [(192,192),(512,2368)] rfl rfl (by simp [insK,g,g2]; rw [wrap64 (by omega) (by omega)]) (by omega) (by omega)
      · have g3:=g2
        simp only [liveLt] at g3
        simp -dsimp [g3,h1,ne_of_lt h1]
        repeat (first|refine ⟨by omega,?_⟩|refine ⟨by simp [capMax];omega,?_⟩|refine ⟨⟨by omega,by omega⟩,?_⟩)
        exact Back_of (i + 1) [0,3,5,6,7] [(192,192),(512,2368)] rfl rfl (by simp [insK,g,g2]; rw [wrap64 (by omega) (by omega)]) (by omega) (by omega)
    · simp -dsimp [h1,ne_of_lt h1]
      repeat (first|refine ⟨by omega,?_⟩|refine ⟨by simp [capMax];omega,?_⟩|refine ⟨⟨by omega,by omega⟩,?_⟩)
      exact Back_of (i + 1) [0,3,5,6,7] [(192,192),(512,2368)] rfl rfl (by simp [insK,g]; rw [wrap64 (by omega) (by omega)]) (by omega) (by omega)
  · obtain rfl:i = l.length:=by omega
    cases g:(insK liveLt x l l.length).2
    · simp -dsimp [g]
      repeat (first|refine ⟨by omega,?_⟩|refine ⟨by simp [capMax];omega,?_⟩|refine ⟨⟨by omega,by omega⟩,?_⟩)
      simp [insF,g]
    · simp -dsimp [g]
      repeat (first|refine ⟨by omega,?_⟩|refine ⟨by simp [capMax];omega,?_⟩|refine ⟨⟨by omega,by omega⟩,?_⟩)
      simp [insF,g]
@[simp] def h276:Hts:={ merge:=fun _ => false,mergeF:=fun f => f == 277,dr:=fun id => if id = 6 then [{},{},{},{},{},{},{},{},{},{},{ cr:=true },{}] else [] }
set_option maxHeartbeats 1000000 in
theorem f276_ok (l:List GCell) (x:GCell) (ha:l.length ≤ 1000000000):FnR Tryz.prog 276 [.v (.im l.length (flat l)),.agg [.str x.obj,.int .i64 x.dot.rep,.int .i64 x.dot.seq,.int .i64 x.time,.int .i64 x.ref.rep,.int .i64 x.ref.seq,.int .i64 x.val,.bool x.gone]] (.v (.ow 72 8 (insF cellLt x l).length (flat (insF cellLt x l)))):=by
  refine FnW.of_AW TryzT_ok 0 (fn:=Tryz.f276) (by kernel_rfl) rfl (by kernel_rfl) rfl rfl rfl ?_; refine AW_of h276 TryzT_ok (by kernel_rfl) ?_
  simp -dsimp
  refine AWh_loop (fun i:Nat => i ≤ l.length) (fun i => mkE [(0,.c (.im l.length (flat l))),(3,.box 192 0),(5,.arr 512),(6,.c (.bool (insK cellLt x l i).2)),(7,.c (.int .i64 i))] [(192,.box [.c (.str x.obj),.c (.int .i64 x.dot.rep),.c (.int .i64 x.dot.seq),.c (.int .i64 x.time),.c (.int .i64 x.ref.rep),.c (.int .i64 x.ref.seq),.c (.int .i64 x.val),.c (.bool x.gone)]),(512,.arr 0 72 8 (insK cellLt x l i).1.length (flat (insK cellLt x l i).1))]) (fun i => l.length - i) 0 (Wk_to [0,3,5,6,7] [(192,192),(512,512)] rfl rfl (by simp [insK])) (by simp) ?_
  rintro i hi
  have hkl:=insK_len (lt:=cellLt) x l i
  have hkl':(insK cellLt x l i).1.length ≤ i + 1:=by split at hkl <;> omega
  refine AW_of h276 TryzT_ok (by kernel_rfl) ?_
  rcases Nat.lt_or_ge i l.length with h1 | h1
  · cases g:(insK cellLt x l i).2
    · simp -dsimp [h1,ne_of_lt h1]
      repeat (first|refine ⟨by omega,?_⟩|refine ⟨by simp [capMax];omega,?_⟩|refine ⟨⟨by omega,by omega⟩,?_⟩)
      refine ACallK_of (f277_ok _ _) ?_
      cases g2:cellLt x (nth l i)
      · have g3:=g2
        simp only [cellLt] at g3
        simp -dsimp [g3,h1,ne_of_lt h1]
        repeat (first|refine ⟨by omega,?_⟩|refine ⟨by simp [capMax];omega,?_⟩|refine ⟨⟨by omega,by omega⟩,?_⟩)
        exact Back_of (i + 1) [0,3,5,6,7] [(192,192),(512,2368)] rfl rfl (by simp [insK,g,g2]; rw [wrap64 (by omega) (by omega)]) (by omega) (by omega)
      · have g3:=g2
        simp only [cellLt] at g3
        simp -dsimp [g3,h1,ne_of_lt h1]
        repeat (first|refine ⟨by omega,?_⟩|refine ⟨by simp [capMax];omega,?_⟩|refine ⟨⟨by omega,by omega⟩,?_⟩)
        exact Back_of (i + 1) [0,3,5,6,7] [(192,192),(512,2368)] rfl rfl (by simp [insK,g,g2]; rw [wrap64 (by omega) (by omega)]) (by omega) (by omega)
    · simp -dsimp [h1,ne_of_lt h1]
      repeat (first|refine ⟨by omega,?_⟩|refine ⟨by simp [capMax];omega,?_⟩|refine ⟨⟨by omega,by omega⟩,?_⟩)
      exact Back_of (i + 1) [0,3,5,6,7] [(192,192),(512,2368)] rfl rfl (by simp [insK,g]; rw [wrap64 (by omega) (by omega)]) (by omega) (by omega)
  · obtain rfl:i = l.length:=by omega
    cases g:(insK cellLt x l l.length).2
    · simp -dsimp [g]
      repeat (first|refine ⟨by omega,?_⟩|refine ⟨by simp [capMax];omega,?_⟩|refine ⟨⟨by omega,by omega⟩,?_⟩)
      simp [insF,g]
    · simp -dsimp [g]
      repeat (first|refine ⟨by omega,?_⟩|refine ⟨by simp [capMax];omega,?_⟩|refine ⟨⟨by omega,by omega⟩,?_⟩)
      simp [insF,g]
end Am
namespace Am
open Go Go.Proofs
open Cel (cells)
set_option maxRecDepth 100000
def maxK (a b:List Int):Nat → List Int
  | 0 => []
  | n + 1 => maxK a b n ++ [max (nth a n) (nth b n)]
def knowMax (a b:List Int):List Int:=if (knowOk a && knowOk b) = true then maxK a b a.length else []
theorem maxK_len (a b:List Int):∀ n,(maxK a b n).length = n
  | 0 => rfl
  | n + 1 => by simp [maxK,maxK_len a b n]
@[simp] def h148:Hts:={ merge:=fun _ => false,mergeF:=fun _ => false }
theorem f148_ok (a b:List Int) (ha:a.length ≤ 1073741824) (hb:b.length ≤ 1073741824):FnR Tryz.prog 148 [.v (.im a.length (flat a)),.v (.im b.length (flat b))] (.v (.ow 3 1 (knowMax a b).length (flat (knowMax a b)))):=by
  refine FnW.of_AW TryzT_ok 0 (fn:=Tryz.f148) (by kernel_rfl) rfl (by kernel_rfl) rfl rfl rfl ?_; refine AW_of h148 TryzT_ok (by kernel_rfl) ?_
  simp -dsimp
  refine ACallK_of (f128_ok _ ha) ?_
  simp -dsimp
  cases ka:knowOk a
  · simp -dsimp
    simp [knowMax,ka]
  simp -dsimp
  refine ACallK_of (f128_ok _ hb) ?_
  simp -dsimp
  cases kb:knowOk b
  · simp -dsimp
    simp [knowMax,kb]
  simp -dsimp
  have la:a.length = b.length:=by
    simp [knowOk] at ka kb
    omega
  refine AWh_loop (fun i:Nat => i ≤ a.length) (fun i => mkE [(0,.c (.im a.length (flat a))),(1,.c (.im b.length (flat b))),(5,.arr 512),(6,.c (.int .i64 i))] [(512,.arr 0 3 1 i (flat (maxK a b i)))]) (fun i => a.length - i) 0 (Wk_to [0,1,5,6] [(512,512)] rfl rfl (by simp [maxK])) (by simp) ?_
  rintro i hi
  refine AW_of h148 TryzT_ok (by kernel_rfl) ?_
  rcases Nat.lt_or_ge i a.length with h1 | h1
  · have h2:i < b.length:=by omega
    rcases Int.lt_or_le (nth a i) (nth b i) with h3 | h3
    · have e:max (nth a i) (nth b i) = nth b i:=by omega
      simp -dsimp [h1,h2,h3,ne_of_lt h1,ne_of_lt h2]
      refine ⟨by simp [capMax]; omega,?_⟩
      exact Back_of (i + 1) [0,1,5,6] [(512,2624)] rfl rfl (by simp [maxK,e]; rw [wrap64 (by omega) (by omega)]) (by omega) (by omega)
    · have e:max (nth a i) (nth b i) = nth a i:=by omega
      have h3':¬ nth a i < nth b i:=by omega
      simp -dsimp [h1,h2,h3,h3',ne_of_lt h1,ne_of_lt h2]
      refine ⟨by simp [capMax]; omega,?_⟩
      exact Back_of (i + 1) [0,1,5,6] [(512,2624)] rfl rfl (by simp [maxK,e]; rw [wrap64 (by omega) (by omega)]) (by omega) (by omega)
  · obtain rfl:i = a.length:=by omega
    simp -dsimp
    simp [knowMax,ka,kb,maxK_len]
@[simp] def h147:Hts:={ dr:=fun id => if id = 1 then [{ cr:=true,mb:=[7,11,15] },{ mb:=[3,7,11,15] },{ mb:=[3,7,11,15] },{ wr:=[192],cr:=true,mb:=[7,11,15] },{ mn:=[192],cr:=true,mb:=[3,6,11,15] },{ mn:=[192],mb:=[3,6,7,11,15] },{ mn:=[192],mb:=[3,6,7,11,15] },{ wr:=[448],cr:=true,mb:=[11,15] },{ mn:=[192,448],cr:=true,mb:=[3,6,7,10,15] },{ mn:=[192,448],mb:=[3,6,7,10,11,15] },{ mn:=[192,448],mb:=[3,6,7,10,11,15] },{ wr:=[704],cr:=true,mb:=[15] },{ mn:=[192,448,704],cr:=true,mb:=[3,6,7,10,11,14] },{ mn:=[192,448,704],mb:=[3,6,7,10,11,14,15] },{ mn:=[192,448,704],mb:=[3,6,7,10,11,14,15] },{ wr:=[960],cr:=true },{},{ wr:=[128] }] else [] }
theorem f147_ok (s:GState) (h:s.Ok):FnR Tryz.prog 147 [.agg [.im s.know.length (flat s.know),.im s.tallies.length (flat s.tallies),.im s.lives.length (flat s.lives),.im s.cs.length (flat s.cs)]] (.agg [.ow 3 1 s.know.length (flat s.know),.ow 179 3 s.tallies.length (flat s.tallies),.ow 159 6 s.lives.length (flat s.lives),.ow 72 8 s.cs.length (flat s.cs)]):=by
  simp only [GState.Ok] at h
  obtain ⟨o0,o1,o2,o3,o4,o5,o6⟩:=h
  refine FnW.of_AW TryzT_ok 0 (fn:=Tryz.f147) (by kernel_rfl) rfl (by kernel_rfl) rfl rfl rfl ?_; refine AW_of h147 TryzT_ok (by kernel_rfl) ?_
  simp -dsimp
  simp [capMax]
  omega
def hasX {α:Type} [DecidableEq α] (l:List α) (x:α):Bool:=decide (x ∈ l)
theorem not_mem_nth {α:Type} [Cel α] {l:List α} {x:α} (h:∀ i:Nat,i < l.length → nth l i ≠ x):¬ x ∈ l:=by
  intro hx
  obtain ⟨i,hi,e⟩:=List.getElem_of_mem hx
  exact h i hi (by rw [nth_eq hi,e])
@[simp] def h151:Hts:={ dr:=fun id => if id = 4 then [{},{},{},{},{},{}] else [] }
theorem f151_ok (l:List GLive) (x:GLive) (ha:l.length ≤ 1073741824):FnR Tryz.prog 151 [.v (.im l.length (flat l)),.agg [.bool x.map,.str x.obj,.str x.key,.int .i64 x.val,.int .i64 x.dot.rep,.int .i64 x.dot.seq]] (.v (.bool (hasX l x))):=by
  refine FnW.of_AW TryzT_ok 0 (fn:=Tryz.f151) (by kernel_rfl) rfl (by kernel_rfl) rfl rfl rfl ?_; refine AW_of h151 TryzT_ok (by kernel_rfl) ?_
  simp -dsimp
  refine AWh_loop (fun i:Nat => i ≤ l.length ∧ ∀ j:Nat,j < i → ¬ nth l j = x) (fun i => mkE [(0,.c (.im l.length (flat l))),(3,.box 192 0),(5,.c (.int .i64 i))] [(192,.box [.c (.bool x.map),.c (.str x.obj),.c (.str x.key),.c (.int .i64 x.val),.c (.int .i64 x.dot.rep),.c (.int .i64 x.dot.seq)])]) (fun i => l.length - i) 0 (Wk_to [0,3,5] [(192,192)] rfl rfl (by simp)) (by simp) ?_
  rintro i ⟨hi,hall⟩
  refine AW_of h151 TryzT_ok (by kernel_rfl) ?_
  rcases Nat.lt_or_ge i l.length with h1 | h1
  · simp -dsimp [h1,ne_of_lt h1]
    try refine ⟨by omega,?_⟩
    refine ⟨fun e0 e1 e2 e3 e4 e5 => ?_,fun he => ?_⟩
    · have:x ∈ l:=by
        have h2:nth l i = x:=by simp [GLive.ext_iff,GDot.ext_iff,e0,e1,e2,e3,e4,e5]
        exact h2 ▸ nth_mem h1
      simp [hasX,this]
    · refine Back_of (i + 1) [0,3,5] [(192,192)] rfl rfl (by simp; rw [wrap64 (by omega) (by omega)]) ⟨by omega,fun j hj => ?_⟩ (by omega)
      by_cases e3:j = i
      · subst e3
        rintro rfl
        simp at he
      · exact hall j (by omega)
  · simp -dsimp [Nat.not_lt.2 h1]
    have:=not_mem_nth (l:=l) (x:=x) (fun j hj => hall j (by omega))
    simp [hasX,this]
@[simp] def h392:Hts:={ dr:=fun id => if id = 4 then [{},{},{},{},{},{}] else [] }
theorem f392_ok (l:List GDot) (x:GDot) (ha:l.length ≤ 1073741824):FnR Tryz.prog 392 [.v (.im l.length (flat l)),.agg [.int .i64 x.rep,.int .i64 x.seq]] (.v (.bool (hasX l x))):=by
  refine FnW.of_AW TryzT_ok 0 (fn:=Tryz.f392) (by kernel_rfl) rfl (by kernel_rfl) rfl rfl rfl ?_; refine AW_of h392 TryzT_ok (by kernel_rfl) ?_
  simp -dsimp
  refine AWh_loop (fun i:Nat => i ≤ l.length ∧ ∀ j:Nat,j < i → ¬ nth l j = x) (fun i => mkE [(0,.c (.im l.length (flat l))),(3,.box 192 0),(5,.c (.int .i64 i))] [(192,.box [.c (.int .i64 x.rep),.c (.int .i64 x.seq)])]) (fun i => l.length - i) 0 (Wk_to [0,3,5] [(192,192)] rfl rfl (by simp)) (by simp) ?_
  rintro i ⟨hi,hall⟩
  refine AW_of h392 TryzT_ok (by kernel_rfl) ?_
  rcases Nat.lt_or_ge i l.length with h1 | h1
  · simp -dsimp [h1,ne_of_lt h1]
    try refine ⟨by omega,?_⟩
    refine ⟨fun e0 e1 => ?_,fun he => ?_⟩
    · have:x ∈ l:=by
        have h2:nth l i = x:=by simp [GDot.ext_iff,e0,e1]
        exact h2 ▸ nth_mem h1
      simp [hasX,this]
    · refine Back_of (i + 1) [0,3,5] [(192,192)] rfl rfl (by simp; rw [wrap64 (by omega) (by omega)]) ⟨by omega,fun j hj => ?_⟩ (by omega)
      by_cases e3:j = i
      · subst e3
        rintro rfl
        simp at he
      · exact hall j (by omega)
  · simp -dsimp [Nat.not_lt.2 h1]
    have:=not_mem_nth (l:=l) (x:=x) (fun j hj => hall j (by omega))
    simp [hasX,this]
end Am
namespace Am
open Go Go.Proofs
open Cel (cells)
set_option maxRecDepth 100000
@[simp] def h275:Hts:={ merge:=fun _ => false,dr:=fun id => if id = 5 then [{},{},{},{},{},{},{},{},{},{},{ wr:=[640002] },{ wr:=[640002] },{ wr:=[640002] }] else [] }
set_option maxHeartbeats 2000000 in
theorem f275_ok (u0 u2 u3:Value) (l:List GTally) (o:ByteArray) (r v:Int) (ha:l.length ≤ 3000000000):FnW Tryz.prog 275 [.ptr [.tk u0,.ow 179 3 l.length (flat l),.tk u2,.tk u3],.v (.str o),.v (.int .i64 r),.v (.int .i64 v)] (.tup []) [.ptr [.tk u0,.ow 179 3 (addT l o r v).length (flat (addT l o r v)),.tk u2,.tk u3],.any,.any,.any]:=by
  refine FnW.of_AW TryzT_ok 1 (fn:=Tryz.f275) (by kernel_rfl) rfl (by kernel_rfl) rfl rfl rfl ?_; refine AW_of h275 TryzT_ok (by kernel_rfl) ?_
  simp -dsimp
  refine AWh_loop (fun i:Nat => i ≤ l.length ∧ ∀ j:Nat,j < i → talIs o r (nth l j) = false) (fun i => mkE [(0,.box 640000 0),(1,.c (.str o)),(2,.c (.int .i64 r)),(3,.c (.int .i64 v)),(8,.c (.int .i64 i))] [(640000,.box [.c (.tk u0),.arr 640002,.c (.tk u2),.c (.tk u3)]),(640002,.arr 0 179 3 l.length (flat l))]) (fun i => l.length - i) 0 (Wk_to [0,1,2,3,8] [(640000,640000),(640002,640002)] rfl rfl (by simp)) (by simp) ?_
  rintro i ⟨hi,hall⟩
  refine AW_of h275 TryzT_ok (by kernel_rfl) ?_
  rcases Nat.lt_or_ge i l.length with h1 | h1
  · by_cases e1:(nth l i).obj = o
    · by_cases e2:(nth l i).rep = r
      · have b2:((nth l i).rep == r) = true:=by simp [e2]
        simp -dsimp [h1,ne_of_lt h1,e1,e2]
        repeat (first|refine ⟨by omega,?_⟩|refine ⟨by simp [capMax];omega,?_⟩|refine ⟨⟨by omega,by omega⟩,?_⟩)
        have hr:addT l o r v = l.set i ⟨o,r,(IntKind.i64.wrap ((nth l i).sum + v)).tmod 1000000⟩:=by
          have hix:idx (talIs o r) l = i:=idx_here h1 hall (by simp [talIs,e1,e2])
          simp [addT,hix]
        rw [hr]
        exact ⟨by simp,rfl⟩
      · have b2:((nth l i).rep == r) = false:=by simp [e2]
        simp -dsimp [h1,ne_of_lt h1,e1,e2]
        repeat (first|refine ⟨by omega,?_⟩|refine ⟨by simp [capMax];omega,?_⟩|refine ⟨⟨by omega,by omega⟩,?_⟩)
        exact Back_of (i + 1) [0,1,2,3,8] [(640000,640000),(640002,640002)] rfl rfl (by simp; rw [wrap64 (by omega) (by omega)]) ⟨by omega,fun j hj => by
          by_cases e3:j = i
          · subst e3; simp [talIs,e2]
          · exact hall j (by omega)⟩ (by omega)
    · simp -dsimp [h1,ne_of_lt h1,e1]
      repeat (first|refine ⟨by omega,?_⟩|refine ⟨by simp [capMax];omega,?_⟩|refine ⟨⟨by omega,by omega⟩,?_⟩)
      exact Back_of (i + 1) [0,1,2,3,8] [(640000,640000),(640002,640002)] rfl rfl (by simp; rw [wrap64 (by omega) (by omega)]) ⟨by omega,fun j hj => by
        by_cases e3:j = i
        · subst e3; simp [talIs,e1]
        · exact hall j (by omega)⟩ (by omega)
  · obtain rfl:i = l.length:=by omega
    have hno:idx (talIs o r) l = -1:=idx_none hall
    clear hi h1
    simp -dsimp
    refine AWh_loop (fun i:Nat => i ≤ l.length) (fun i => mkE [(0,.box 640000 0),(1,.c (.str o)),(2,.c (.int .i64 r)),(3,.c (.int .i64 v)),(10,.arr 3328),(11,.c (.bool (insK tallyLt ⟨o,r,v⟩ l i).2)),(12,.c (.int .i64 i))] [(640000,.box [.c (.tk u0),.arr 640002,.c (.tk u2),.c (.tk u3)]),(640002,.arr 0 179 3 l.length (flat l)),(3328,.arr 0 179 3 (insK tallyLt ⟨o,r,v⟩ l i).1.length (flat (insK tallyLt ⟨o,r,v⟩ l i).1))]) (fun i => l.length - i) 0 (Wk_to [0,1,2,3,10,11,12] [(640000,640000),(640002,640002),(3328,3328)] rfl rfl (by simp [insK])) (by simp) ?_
    rintro i hi
    have hkl:=insK_len (lt:=tallyLt) ⟨o,r,v⟩ l i
    have hkl':(insK tallyLt ⟨o,r,v⟩ l i).1.length ≤ i + 1:=by split at hkl <;> omega
    refine AW_of h275 TryzT_ok (by kernel_rfl) ?_
    rcases Nat.lt_or_ge i l.length with h1 | h1
    · cases g:(insK tallyLt ⟨o,r,v⟩ l i).2
      · by_cases e1:(nth l i).obj = o
        · subst e1
          rcases Int.lt_or_le r (nth l i).rep with e2 | e2
          · have g3:tallyLt ⟨(nth l i).obj,r,v⟩ (nth l i) = true:=by simp [tallyLt,e2]
            simp -dsimp [h1,ne_of_lt h1,e2]
            repeat (first|refine ⟨by omega,?_⟩|refine ⟨by simp [capMax];omega,?_⟩|refine ⟨⟨by omega,by omega⟩,?_⟩)
            exact Back_of (i + 1) [0,1,2,3,10,11,12] [(640000,640000),(640002,640002),(3328,6336)] rfl rfl (by simp [insK,g,g3]; rw [wrap64 (by omega) (by omega)]) (by omega) (by omega)
          · have g3:tallyLt ⟨(nth l i).obj,r,v⟩ (nth l i) = false:=by simp [tallyLt]; exact ⟨strLt_self _,e2⟩
            have e2':¬ r < (nth l i).rep:=by omega
            simp -dsimp [h1,ne_of_lt h1,e2,e2']
            repeat (first|refine ⟨by omega,?_⟩|refine ⟨by simp [capMax];omega,?_⟩|refine ⟨⟨by omega,by omega⟩,?_⟩)
            exact Back_of (i + 1) [0,1,2,3,10,11,12] [(640000,640000),(640002,640002),(3328,6336)] rfl rfl (by simp [insK,g,g3]; rw [wrap64 (by omega) (by omega)]) (by omega) (by omega)
        · cases g4:Op.bytesLess (nth l i).obj.toList o.toList
          · have g5:strLt o (nth l i).obj = true:=by
              cases g6:strLt o (nth l i).obj
              · exact absurd (strLt_tri g4 g6) e1
              · rfl
            have g3:tallyLt ⟨o,r,v⟩ (nth l i) = true:=by simp [tallyLt,g5]
            simp -dsimp [h1,ne_of_lt h1,e1,g4]
            repeat (first|refine ⟨by omega,?_⟩|refine ⟨by simp [capMax];omega,?_⟩|refine ⟨⟨by omega,by omega⟩,?_⟩)
            exact Back_of (i + 1) [0,1,2,3,10,11,12] [(640000,640000),(640002,640002),(3328,6336)] rfl rfl (by simp [insK,g,g3]; rw [wrap64 (by omega) (by omega)]) (by omega) (by omega)
          · have g5:strLt o (nth l i).obj = false:=strLt_asymm g4
            have g3:tallyLt ⟨o,r,v⟩ (nth l i) = false:=by simp [tallyLt,g5]; exact fun h => absurd h.symm e1
            simp -dsimp [h1,ne_of_lt h1,e1,g4]
            repeat (first|refine ⟨by omega,?_⟩|refine ⟨by simp [capMax];omega,?_⟩|refine ⟨⟨by omega,by omega⟩,?_⟩)
            exact Back_of (i + 1) [0,1,2,3,10,11,12] [(640000,640000),(640002,640002),(3328,6336)] rfl rfl (by simp [insK,g,g3]; rw [wrap64 (by omega) (by omega)]) (by omega) (by omega)
      · simp -dsimp [h1,ne_of_lt h1]
        repeat (first|refine ⟨by omega,?_⟩|refine ⟨by simp [capMax];omega,?_⟩|refine ⟨⟨by omega,by omega⟩,?_⟩)
        exact Back_of (i + 1) [0,1,2,3,10,11,12] [(640000,640000),(640002,640002),(3328,6336)] rfl rfl (by simp [insK,g]; rw [wrap64 (by omega) (by omega)]) (by omega) (by omega)
    · obtain rfl:i = l.length:=by omega
      cases g:(insK tallyLt ⟨o,r,v⟩ l l.length).2
      · have hr:addT l o r v = insF tallyLt ⟨o,r,v⟩ l:=by simp [addT,hno]
        simp -dsimp [g]
        repeat (first|refine ⟨by omega,?_⟩|refine ⟨by simp [capMax];omega,?_⟩|refine ⟨⟨by omega,by omega⟩,?_⟩)
        simp [hr,insF,g]
      · have hr:addT l o r v = insF tallyLt ⟨o,r,v⟩ l:=by simp [addT,hno]
        simp -dsimp [g]
        repeat (first|refine ⟨by omega,?_⟩|refine ⟨by simp [capMax];omega,?_⟩|refine ⟨⟨by omega,by omega⟩,?_⟩)
        simp [hr,insF,g]
def addN (p:GTally → Bool) (base l:List GTally):Nat → List GTally
  | 0 => base
  | n + 1 => if p (nth l n) = true then addT (addN p base l n) (nth l n).obj (nth l n).rep (nth l n).sum else addN p base l n
theorem addT_len (l:List GTally) (o:ByteArray) (r v:Int):(addT l o r v).length ≤ l.length + 1:=by
  unfold addT
  split
  · simp
  · rw [insF_len]; omega
theorem addN_len (p:GTally → Bool) (base l:List GTally):∀ n,(addN p base l n).length ≤ base.length + n
  | 0 => by simp [addN]
  | n + 1 => by
    have:=addN_len p base l n
    have:=addT_len (addN p base l n) (nth l n).obj (nth l n).rep (nth l n).sum
    simp only [addN]; split <;> omega
def noMore (ka kb:List Int) (t:GTally):Bool:=decide (nth kb t.rep.toNat ≤ nth ka t.rep.toNat)
def more (ka kb:List Int) (t:GTally):Bool:=decide (nth ka t.rep.toNat < nth kb t.rep.toNat)
def repsIn (l:List GTally):Prop:=∀ i:Nat,i < l.length → 0 ≤ (nth l i).rep ∧ (nth l i).rep < 3
def talTwo (ka kb:List Int) (x y:List GTally):List GTally:=addN (more ka kb) (addN (noMore ka kb) [] x x.length) y y.length
@[simp] def h149:Hts:={ merge:=fun _ => false,lend:=fun f => if f = 275 then [.box [0,2,3]] else [],dr:=fun id => if id = 6 then [{},{},{},{},{},{},{},{},{},{},{},{},{}] else if id = 12 then [{},{},{},{},{},{},{},{},{},{},{},{},{}] else [] }
set_option maxHeartbeats 2000000 in
theorem f149_ok (a b:GState) (ha:a.Ok) (hb:b.Ok) (hk1:a.know.length = 3) (hk2:b.know.length = 3) (hr1:repsIn a.tallies) (hr2:repsIn b.tallies):FnR Tryz.prog 149 [.agg [.im a.know.length (flat a.know),.im a.tallies.length (flat a.tallies),.im a.lives.length (flat a.lives),.im a.cs.length (flat a.cs)],.agg [.im b.know.length (flat b.know),.im b.tallies.length (flat b.tallies),.im b.lives.length (flat b.lives),.im b.cs.length (flat b.cs)]] (.v (.ow 179 3 (talTwo a.know b.know a.tallies b.tallies).length (flat (talTwo a.know b.know a.tallies b.tallies)))):=by
  refine FnW.of_AW TryzT_ok 0 (fn:=Tryz.f149) (by kernel_rfl) rfl (by kernel_rfl) rfl rfl rfl ?_; refine AW_of h149 TryzT_ok (by kernel_rfl) ?_
  simp -dsimp
  have hb1:a.tallies.length ≤ 1073741824:=by simp only [GState.Ok] at ha; omega
  have hb2:b.tallies.length ≤ 1073741824:=by simp only [GState.Ok] at hb; omega
  refine AWh_loop (fun i:Nat => i ≤ a.tallies.length) (fun i => mkE [(2,.box 128 0),(3,.box 192 0),(5,.box 320 0),(6,.c (.int .i64 i))] [(321,.arr 0 179 3 (addN (noMore a.know b.know) [] a.tallies i).length (flat (addN (noMore a.know b.know) [] a.tallies i))),(128,.box [.c (.im a.know.length (flat a.know)),.c (.im a.tallies.length (flat a.tallies)),.c (.im a.lives.length (flat a.lives)),.c (.im a.cs.length (flat a.cs))]),(192,.box [.c (.im b.know.length (flat b.know)),.c (.im b.tallies.length (flat b.tallies)),.c (.im b.lives.length (flat b.lives)),.c (.im b.cs.length (flat b.cs))]),(320,.box [.nil,.arr 321,.nil,.nil])]) (fun i => a.tallies.length - i) 0 (Wk_toA [2,3,5,6] [(128,128),(192,192),(320,320)] [.cell 320 1 321 179 3] rfl rfl (by simp [addN])) (by simp) ?_
  rintro i hi
  have hal:=addN_len (noMore a.know b.know) [] a.tallies i
  simp only [List.length_nil] at hal
  refine AW_of h149 TryzT_ok (by kernel_rfl) ?_
  rcases Nat.lt_or_ge i a.tallies.length with h1 | h1
  · have hr:=hr1 i h1
    have q1:(nth a.tallies i).rep.toNat < a.know.length:=by omega
    have q2:(nth a.tallies i).rep.toNat < b.know.length:=by omega
    by_cases g:nth b.know (nth a.tallies i).rep.toNat ≤ nth a.know (nth a.tallies i).rep.toNat
    · have hs:addN (noMore a.know b.know) [] a.tallies (i + 1) = addT (addN (noMore a.know b.know) [] a.tallies i) (nth a.tallies i).obj (nth a.tallies i).rep (nth a.tallies i).sum:=by simp [addN,noMore,g]
      simp -dsimp [h1,ne_of_lt h1,q1,q2,g,ne_of_lt q1,ne_of_lt q2]
      repeat (first|refine ⟨by omega,?_⟩|refine ⟨by simp [capMax];omega,?_⟩|refine ⟨⟨by omega,by omega⟩,?_⟩)
      refine ACallW_go ?_
      refine ACallC_go (fun us => f275_ok _ _ _ _ _ _ _ (by omega)) ?_
      simp -dsimp
      exact Back_of (i + 1) [2,3,5,6] [(321,2729),(128,128),(192,192),(320,320)] rfl rfl (by simp [hs]; rw [wrap64 (by omega) (by omega)]) (by omega) (by omega)
    · have hs:addN (noMore a.know b.know) [] a.tallies (i + 1) = (addN (noMore a.know b.know) [] a.tallies i):=by simp [addN,noMore,g]
      simp -dsimp [h1,ne_of_lt h1,q1,q2,g,ne_of_lt q1,ne_of_lt q2]
      repeat (first|refine ⟨by omega,?_⟩|refine ⟨by simp [capMax];omega,?_⟩|refine ⟨⟨by omega,by omega⟩,?_⟩)
      exact Back_of (i + 1) [2,3,5,6] [(321,321),(128,128),(192,192),(320,320)] rfl rfl (by simp [hs]; rw [wrap64 (by omega) (by omega)]) (by omega) (by omega)
  · obtain rfl:i = a.tallies.length:=by omega
    clear hi h1
    simp -dsimp
    refine AWh_loop (fun i:Nat => i ≤ b.tallies.length) (fun i => mkE [(2,.box 128 0),(3,.box 192 0),(5,.box 320 0),(8,.c (.int .i64 i))] [(321,.arr 0 179 3 (addN (more a.know b.know) (addN (noMore a.know b.know) [] a.tallies a.tallies.length) b.tallies i).length (flat (addN (more a.know b.know) (addN (noMore a.know b.know) [] a.tallies a.tallies.length) b.tallies i))),(128,.box [.c (.im a.know.length (flat a.know)),.c (.im a.tallies.length (flat a.tallies)),.c (.im a.lives.length (flat a.lives)),.c (.im a.cs.length (flat a.cs))]),(192,.box [.c (.im b.know.length (flat b.know)),.c (.im b.tallies.length (flat b.tallies)),.c (.im b.lives.length (flat b.lives)),.c (.im b.cs.length (flat b.cs))]),(320,.box [.nil,.arr 321,.nil,.nil])]) (fun i => b.tallies.length - i) 0 (Wk_to [2,3,5,8] [(321,321),(128,128),(192,192),(320,320)] rfl rfl (by simp [addN])) (by simp) ?_
    rintro i hi
    have hal2:=addN_len (more a.know b.know) (addN (noMore a.know b.know) [] a.tallies a.tallies.length) b.tallies i
    refine AW_of h149 TryzT_ok (by kernel_rfl) ?_
    rcases Nat.lt_or_ge i b.tallies.length with h1 | h1
    · have hr:=hr2 i h1
      have q1:(nth b.tallies i).rep.toNat < a.know.length:=by omega
      have q2:(nth b.tallies i).rep.toNat < b.know.length:=by omega
      by_cases g:nth a.know (nth b.tallies i).rep.toNat < nth b.know (nth b.tallies i).rep.toNat
      · have hs:addN (more a.know b.know) (addN (noMore a.know b.know) [] a.tallies a.tallies.length) b.tallies (i + 1) = addT (addN (more a.know b.know) (addN (noMore a.know b.know) [] a.tallies a.tallies.length) b.tallies i) (nth b.tallies i).obj (nth b.tallies i).rep (nth b.tallies i).sum:=by simp [addN,more,g]
        simp -dsimp [h1,ne_of_lt h1,q1,q2,g,ne_of_lt q1,ne_of_lt q2]
        repeat (first|refine ⟨by omega,?_⟩|refine ⟨by simp [capMax];omega,?_⟩|refine ⟨⟨by omega,by omega⟩,?_⟩)
        refine ACallW_go ?_
        refine ACallC_go (fun us => f275_ok _ _ _ _ _ _ _ (by omega)) ?_
        simp -dsimp
        exact Back_of (i + 1) [2,3,5,8] [(321,4777),(128,128),(192,192),(320,320)] rfl rfl (by simp [hs]; rw [wrap64 (by omega) (by omega)]) (by omega) (by omega)
      · have hs:addN (more a.know b.know) (addN (noMore a.know b.know) [] a.tallies a.tallies.length) b.tallies (i + 1) = (addN (more a.know b.know) (addN (noMore a.know b.know) [] a.tallies a.tallies.length) b.tallies i):=by simp [addN,more,g]
        simp -dsimp [h1,ne_of_lt h1,q1,q2,g,ne_of_lt q1,ne_of_lt q2]
        repeat (first|refine ⟨by omega,?_⟩|refine ⟨by simp [capMax];omega,?_⟩|refine ⟨⟨by omega,by omega⟩,?_⟩)
        exact Back_of (i + 1) [2,3,5,8] [(321,321),(128,128),(192,192),(320,320)] rfl rfl (by simp [hs]; rw [wrap64 (by omega) (by omega)]) (by omega) (by omega)
    · obtain rfl:i = b.tallies.length:=by omega
      simp -dsimp
      exact ⟨rfl,rfl⟩
end Am
namespace Am
open Go Go.Proofs
open Cel (cells)
set_option maxRecDepth 100000
@[simp] def h150:Hts:={ merge:=fun _ => false,dr:=fun id => if id = 9 then [{},{},{},{},{},{},{},{},{},{},{}] else [] }
set_option maxHeartbeats 2000000 in
theorem f150_ok (a b:List GCell) (ha:a.length ≤ 400000000) (hb:b.length ≤ 400000000) (sa:SortC a) (sb:SortC b):FnR Tryz.prog 150 [.v (.im a.length (flat a)),.v (.im b.length (flat b))] (.v (.ow 72 8 (cellsU a b).length (flat (cellsU a b)))):=by
  refine FnW.of_AW TryzT_ok 0 (fn:=Tryz.f150) (by kernel_rfl) rfl (by kernel_rfl) rfl rfl rfl ?_; refine AW_of h150 TryzT_ok (by kernel_rfl) ?_
  simp -dsimp
  refine ⟨by simp [capMax]; omega,?_⟩
  refine AWh_loop (fun i:Nat => i ≤ b.length) (fun i => mkE [(1,.c (.im b.length (flat b))),(5,.arr 704),(6,.c (.int .i64 i))] [(704,.arr 0 72 8 (cellsI a b i).length (flat (cellsI a b i)))]) (fun i => b.length - i) 0 (Wk_to [1,5,6] [(704,704)] rfl rfl (by simp [cellsI])) (by simp) ?_
  rintro i hi
  have hkl:=cellsI_len a b i
  have hso:=cellsI_sorted sa sb i hi
  refine AW_of h150 TryzT_ok (by kernel_rfl) ?_
  rcases Nat.lt_or_ge i b.length with h1 | h1
  · simp -dsimp [h1,ne_of_lt h1]
    refine AWh_loop (fun q:Nat × Int => q.1 ≤ (cellsI a b i).length ∧ -1 ≤ q.2 ∧ q.2 < q.1 ∧ ∀ j:Nat,j < q.1 → ((nth (cellsI a b i) j).dot = (nth b i).dot ↔ (j:Int) = q.2)) (fun q => mkE [(1,.c (.im b.length (flat b))),(5,.arr 704),(6,.c (.int .i64 i)),(7,.c (.int .i64 q.2)),(8,.c (.int .i64 q.1))] [(704,.arr 0 72 8 (cellsI a b i).length (flat (cellsI a b i)))]) (fun q => (cellsI a b i).length - q.1) (0,-1) (Wk_to [1,5,6,7,8] [(704,704)] rfl rfl (by simp)) (by simp) ?_
    rintro ⟨j,p⟩ ⟨hj,hp0,hp1,hall⟩
    simp only at hj hp0 hp1 hall
    refine AW_of h150 TryzT_ok (by kernel_rfl) ?_
    rcases Nat.lt_or_ge j (cellsI a b i).length with g1 | g1
    · by_cases e:(nth (cellsI a b i) j).dot = (nth b i).dot
      · have e1:(nth (cellsI a b i) j).dot.rep = (nth b i).dot.rep:=by rw [e]
        have e2:(nth (cellsI a b i) j).dot.seq = (nth b i).dot.seq:=by rw [e]
        simp -dsimp [h1,g1,ne_of_lt h1,ne_of_lt g1,e1,e2]
        repeat (first|refine ⟨by omega,?_⟩|refine ⟨by simp [capMax];omega,?_⟩|refine ⟨⟨by omega,by omega⟩,?_⟩)
        refine Back_of (j + 1,(j:Int)) [1,5,6,7,8] [(704,704)] rfl rfl (by simp; rw [wrap64 (by omega) (by omega)]) ⟨by simp only; omega,by simp only; omega,by simp only; omega,fun k hk => ?_⟩ (by simp only; omega)
        simp only at hk ⊢
        constructor
        · intro h
          by_cases e3:k = j
          · omega
          · have h3:=pw_nth hso (show k < j by omega) g1
            simp only [cellLt] at h3
            rw [h,e,before_irr] at h3
            cases h3
        · intro h
          obtain rfl:k = j:=by omega
          exact e
      · have e0:((nth (cellsI a b i) j).dot.rep == (nth b i).dot.rep && (nth (cellsI a b i) j).dot.seq == (nth b i).dot.seq) = false:=by
          rw [Bool.eq_false_iff]; intro h; exact e (by simpa [GDot.ext_iff] using h)
        simp -dsimp [h1,g1,ne_of_lt h1,ne_of_lt g1]
        refine ⟨by omega,by omega,fun e1 e2 => absurd (GDot.ext e1 e2) e,fun _ => ?_⟩
        refine Back_of (j + 1,p) [1,5,6,7,8] [(704,704)] rfl rfl (by simp; rw [wrap64 (by omega) (by omega)]) ⟨by simp only; omega,by simp only; omega,by simp only; omega,fun k hk => ?_⟩ (by simp only; omega)
        simp only at hk ⊢
        by_cases e3:k = j
        · subst e3
          exact ⟨fun h => absurd h e,fun h => by omega⟩
        · exact hall k (by omega)
    · obtain rfl:j = (cellsI a b i).length:=by omega
      clear hj g1
      rcases Int.lt_or_le p 0 with g2 | g2
      · have hno:hasDot a (nth b i).dot = false:=by
          rw [← cellsI_has sb h1]
          exact hasDot_no fun k hk h => by have:=(hall k hk).1 h; omega
        have hs:cellsI a b (i + 1) = insF cellLt (nth b i) (cellsI a b i):=by simp [cellsI,hno]
        simp -dsimp [h1,ne_of_lt h1,g2]
        repeat (first|refine ⟨by omega,?_⟩|refine ⟨by simp [capMax];omega,?_⟩|refine ⟨⟨by omega,by omega⟩,?_⟩)
        refine ACallK_of (f276_ok _ _ (by omega)) ?_
        simp -dsimp
        exact Back_of (i + 1) [1,5,6] [(704,2752)] rfl rfl (by simp [hs]; rw [wrap64 (by omega) (by omega)]) (by omega) (by omega)
      · obtain ⟨m,rfl⟩:∃ m:Nat,p = m:=⟨p.toNat,by omega⟩
        have hm:m < (cellsI a b i).length:=by omega
        have he:(nth (cellsI a b i) m).dot = (nth b i).dot:=(hall m hm).2 rfl
        have hyes:hasDot a (nth b i).dot = true:=by
          rw [← cellsI_has sb h1]
          exact hasDot_at hm he
        have hs:cellsI a b (i + 1) = goneAt (cellsI a b i) (nth b i).dot (nth b i).gone:=by simp [cellsI,hyes]
        have hg:=gone_set (SortC_nodup hso) hm (nth b i).gone
        rw [he] at hg
        have g2':¬ (m:Int) < 0:=by omega
        cases hgo:(nth b i).gone
        · simp -dsimp [h1,ne_of_lt h1,g2',hm,ne_of_lt hm,hgo]
          repeat (first|refine ⟨by omega,?_⟩|refine ⟨by simp [capMax];omega,?_⟩|refine ⟨⟨by omega,by omega⟩,?_⟩)
          rw [hgo] at hs
          rw [goneAt_false] at hs
          exact Back_of (i + 1) [1,5,6] [(704,704)] rfl rfl (by simp [hs]; rw [wrap64 (by omega) (by omega)]) (by omega) (by omega)
        · simp -dsimp [h1,ne_of_lt h1,g2',hm,ne_of_lt hm,hgo]
          repeat (first|refine ⟨by omega,?_⟩|refine ⟨by simp [capMax];omega,?_⟩|refine ⟨⟨by omega,by omega⟩,?_⟩)
          rw [hgo] at hs hg
          simp only [Bool.or_true] at hg
          exact Back_of (i + 1) [1,5,6] [(704,704)] rfl rfl (by simp [hs,← hg]; rw [wrap64 (by omega) (by omega)]) (by omega) (by omega)
  · obtain rfl:i = b.length:=by omega
    simp -dsimp
    simp [cellsU]
def keepA (b:GState) (x:GLive):Bool:=!knows b.know x.dot || hasX b.lives x
def newB (a:GState) (x:GLive):Bool:=!knows a.know x.dot
def livA (a b:GState) (i:Nat):List GLive:=filK (keepA b) [] a.lives i
def livB (a b:GState) (i:Nat):List GLive:=insN liveLt (newB a) (livA a b a.lives.length) b.lives i
def mergeRaw (a b:GState):GState:=⟨knowMax a.know b.know,talTwo a.know b.know a.tallies b.tallies,livB a b b.lives.length,cellsU a.cs b.cs⟩
def mergeState (a b:GState):GState:=if (stateOk a && stateOk b) = true then (if stateOk (mergeRaw a b) = true then mergeRaw a b else a) else a
theorem stateOk_know {s:GState} (h:stateOk s = true):s.know.length = 3:=by
  simp only [stateOk,Bool.and_eq_true,knowOk,decide_eq_true_eq] at h
  exact h.1.1.1.1.1
theorem stateOk_reps {s:GState} (h:stateOk s = true):repsIn s.tallies:=by
  simp only [stateOk,talliesOk,Bool.and_eq_true] at h
  have h2:=h.1.1.1.2.2
  intro i hi
  have h3:=allB_iff.1 h2 i hi
  simp only [talAt,tallyOk,Bool.and_eq_true,spIn,decide_eq_true_eq] at h3
  omega
theorem stateOk_len {s:GState} (h:stateOk s = true):s.tallies.length ≤ 120 ∧ s.lives.length ≤ 120 ∧ s.cs.length ≤ 120:=by
  simp only [stateOk,talliesOk,livKsOk,celKsOk,Bool.and_eq_true,decide_eq_true_eq] at h
  exact ⟨h.1.1.1.2.1,h.1.1.2.1,h.1.2.1⟩
theorem stateOk_cells {s:GState} (h:stateOk s = true):SortC s.cs:=by
  have hk:celKsOk s.cs s.know = true:=by
    simp only [stateOk,Bool.and_eq_true] at h; exact h.1.2
  exact pw_of_nth fun i j hij hj => sorted_lt (celKs_sorted hk) j i hij hj
theorem livA_len (a b:GState) (i:Nat):(livA a b i).length ≤ i:=by
  have:=filK_len (keepA b) [] a.lives i
  simpa [livA] using this
theorem livB_len (a b:GState) (i:Nat):(livB a b i).length ≤ a.lives.length + i:=by
  have:=insN_len liveLt (newB a) (livA a b a.lives.length) b.lives i
  have:=livA_len a b a.lives.length
  unfold livB; omega
theorem addT_mem {l:List GTally} {o:ByteArray} {r v:Int} {x:GTally} (h:x ∈ addT l o r v):x ∈ l ∨ x.obj = o:=by
  unfold addT at h
  split at h
  · rcases List.mem_or_eq_of_mem_set h with h | rfl
    · exact .inl h
    · exact .inr rfl
  · rcases List.mem_cons.1 ((insF_perm _ _).mem_iff.1 h) with rfl | h
    · exact .inr rfl
    · exact .inl h
theorem addN_ok {p:GTally → Bool} {base l:List GTally} (hb:∀ x,x ∈ base → x.Ok) (hl:∀ x,x ∈ l → x.Ok):∀ {n:Nat},n ≤ l.length → ∀ x,x ∈ addN p base l n → x.Ok
  | 0,_,x,h => hb x h
  | n + 1,hn,x,h => by
    simp only [addN] at h
    split at h
    · rcases addT_mem h with h | h
      · exact addN_ok hb hl (by omega) x h
      · have:=hl _ (nth_mem (show n < l.length by omega))
        simp only [GTally.Ok] at this ⊢
        rw [h]; exact this
    · exact addN_ok hb hl (by omega) x h
theorem goneAt_mem {l:List GCell} {d:GDot} {g:Bool} {x:GCell} (h:x ∈ goneAt l d g):∃ y,y ∈ l ∧ y.obj = x.obj:=by
  obtain ⟨y,hy,e⟩:=List.mem_map.1 h
  refine ⟨y,hy,?_⟩
  rw [← e]; split <;> rfl
theorem cellsI_ok {a b:List GCell} (ha:∀ x,x ∈ a → x.Ok) (hb:∀ x,x ∈ b → x.Ok):∀ {n:Nat},n ≤ b.length → ∀ x,x ∈ cellsI a b n → x.Ok
  | 0,_,x,h => ha x h
  | n + 1,hn,x,h => by
    simp only [cellsI] at h
    split at h
    · obtain ⟨y,hy,e⟩:=goneAt_mem h
      have:=cellsI_ok ha hb (by omega) y hy
      simp only [GCell.Ok] at this ⊢
      rw [← e]; exact this
    · rcases List.mem_cons.1 ((insF_perm _ _).mem_iff.1 h) with rfl | h
      · exact hb _ (nth_mem (by omega))
      · exact cellsI_ok ha hb (by omega) x h
theorem knowMax_len (a b:List Int):(knowMax a b).length ≤ a.length:=by
  unfold knowMax; split
  · rw [maxK_len]; exact Nat.le_refl _
  · simp
theorem mergeRaw_ok {a b:GState} (ha:a.Ok) (hb:b.Ok) (ka:stateOk a = true) (kb:stateOk b = true):(mergeRaw a b).Ok:=by
  have la:=stateOk_len ka
  have lb:=stateOk_len kb
  simp only [GState.Ok] at ha hb ⊢
  obtain ⟨a0,a1,a2,a3,a4,a5,a6⟩:=ha
  obtain ⟨b0,b1,b2,b3,b4,b5,b6⟩:=hb
  have k1:=knowMax_len a.know b.know
  have t1:=addN_len (noMore a.know b.know) [] a.tallies a.tallies.length
  have t2:=addN_len (more a.know b.know) (addN (noMore a.know b.know) [] a.tallies a.tallies.length) b.tallies b.tallies.length
  have l1:=livB_len a b b.lives.length
  have c1:=cellsI_len a.cs b.cs b.cs.length
  simp only [List.length_nil] at t1
  refine ⟨?_,?_,?_,?_,?_,?_,?_⟩
  · simp only [mergeRaw]; omega
  · simp only [mergeRaw,talTwo]; omega
  · exact addN_ok (addN_ok (by simp) a2 (Nat.le_refl _)) b2 (Nat.le_refl _)
  · simp only [mergeRaw]; omega
  · intro y hy
    have h2:=(filK_mem (Nat.le_refl _)).1 ((insN_perm _ _ _ _ _).mem_iff.1 hy)
    rcases h2 with h2 | ⟨i,hi,e,_⟩
    · rcases (filK_mem (Nat.le_refl _)).1 h2 with h3 | ⟨i,hi,e,_⟩
      · cases h3
      · rw [← e]; exact a4 _ (nth_mem hi)
    · rw [← e]; exact b4 _ (nth_mem hi)
  · simp only [mergeRaw,cellsU]; omega
  · exact cellsI_ok a6 b6 (Nat.le_refl _)
@[simp] def h24:Hts:={ merge:=fun _ => false,mergeF:=fun _ => false,dr:=fun id => if id = 3 then [{ mb:=[5] },{ mb:=[5] },{ mb:=[5] },{ mb:=[5] },{ cr:=true,mb:=[5] },{ mb:=[23,5] },{ mb:=[23,5] },{ cr:=true,mb:=[5] },{ mb:=[23,26,5] },{ mb:=[23,26,5] },{ mb:=[23,26,5] },{ mb:=[23,26,5] },{ cr:=true,mb:=[5] },{ mb:=[5] },{ cr:=true,mb:=[23,26,31] },{ wr:=[320] }] else if id = 13 then [{},{},{},{},{},{},{},{},{ cr:=true },{}] else if id = 14 then [{},{},{},{},{},{},{},{ cr:=true },{},{ wr:=[320] }] else [] }
set_option maxHeartbeats 4000000 in
theorem f24_ok (a b:GState) (ha:a.Ok) (hb:b.Ok):FnR Tryz.prog 24 [.agg [.im a.know.length (flat a.know),.im a.tallies.length (flat a.tallies),.im a.lives.length (flat a.lives),.im a.cs.length (flat a.cs)],.agg [.im b.know.length (flat b.know),.im b.tallies.length (flat b.tallies),.im b.lives.length (flat b.lives),.im b.cs.length (flat b.cs)]] (.agg [.ow 3 1 (mergeState a b).know.length (flat (mergeState a b).know),.ow 179 3 (mergeState a b).tallies.length (flat (mergeState a b).tallies),.ow 159 6 (mergeState a b).lives.length (flat (mergeState a b).lives),.ow 72 8 (mergeState a b).cs.length (flat (mergeState a b).cs)]):=by
  refine FnW.of_AW TryzT_ok 0 (fn:=Tryz.f24) (by kernel_rfl) rfl (by kernel_rfl) rfl rfl rfl ?_; refine AW_of h24 TryzT_ok (by kernel_rfl) ?_
  simp -dsimp
  refine ACallK_of (f70_ok _ ha) ?_
  rw [stateOkS_eq]
  cases ka:stateOk a
  · simp -dsimp
    refine ACallK_of (f147_ok _ ha) ?_
    simp -dsimp
    simp [mergeState,ka]
  simp -dsimp
  refine ACallK_of (f70_ok _ hb) ?_
  rw [stateOkS_eq]
  cases kb:stateOk b
  · simp -dsimp
    refine ACallK_of (f147_ok _ ha) ?_
    simp -dsimp
    simp [mergeState,ka,kb]
  simp -dsimp
  have la:=stateOk_len ka
  have lb:=stateOk_len kb
  have ha2:=ha
  have hb2:=hb
  simp only [GState.Ok] at ha2 hb2
  refine ACallK_of (f148_ok _ _ ha2.1 hb2.1) ?_
  simp -dsimp
  refine ACallK_of (f149_ok _ _ ha hb (stateOk_know ka) (stateOk_know kb) (stateOk_reps ka) (stateOk_reps kb)) ?_
  simp -dsimp
  refine ACallK_of (f150_ok _ _ (by omega) (by omega) (stateOk_cells ka) (stateOk_cells kb)) ?_
  simp -dsimp
  refine AWh_loop (fun i:Nat => i ≤ a.lives.length) (fun i => mkE [(2,.box 128 0),(3,.box 192 0),(4,.box 256 0),(5,.box 320 0),(6,.c (.int .i64 i))] [(1502,.arr 0 159 6 (livA a b i).length (flat (livA a b i))),(128,.box [.c (.im a.know.length (flat a.know)),.c (.im a.tallies.length (flat a.tallies)),.c (.im a.lives.length (flat a.lives)),.c (.im a.cs.length (flat a.cs))]),(192,.box [.c (.im b.know.length (flat b.know)),.c (.im b.tallies.length (flat b.tallies)),.c (.im b.lives.length (flat b.lives)),.c (.im b.cs.length (flat b.cs))]),(256,.box [.nil,.nil,.nil,.nil]),(320,.box [.arr 1500,.arr 1501,.arr 1502,.arr 1503]),(1500,.arr 0 3 1 (knowMax a.know b.know).length (flat (knowMax a.know b.know))),(1501,.arr 0 179 3 (talTwo a.know b.know a.tallies b.tallies).length (flat (talTwo a.know b.know a.tallies b.tallies))),(1503,.arr 0 72 8 (cellsU a.cs b.cs).length (flat (cellsU a.cs b.cs)))]) (fun i => a.lives.length - i) 0 (Wk_toA [2,3,4,5,6] [(128,128),(192,192),(256,256),(320,320),(1500,1472),(1501,1664),(1503,1984)] [.cell 320 2 1502 159 6] rfl rfl (by simp [livA,filK])) (by simp) ?_
  rintro i hi
  have hal:=livA_len a b i
  refine AW_of h24 TryzT_ok (by kernel_rfl) ?_
  rcases Nat.lt_or_ge i a.lives.length with h1 | h1
  · simp -dsimp [h1,ne_of_lt h1]
    repeat (first|refine ⟨by omega,?_⟩|refine ⟨by simp [capMax];omega,?_⟩|refine ⟨⟨by omega,by omega⟩,?_⟩)
    refine ACallK_of (f17_ok _ _ hb2.1) ?_
    cases g1:knows b.know (nth a.lives i).dot
    · have hs:livA a b (i + 1) = livA a b i ++ [nth a.lives i]:=by simp [livA,filK,keepA,g1]
      simp -dsimp [h1,ne_of_lt h1]
      repeat (first|refine ⟨by omega,?_⟩|refine ⟨by simp [capMax];omega,?_⟩|refine ⟨⟨by omega,by omega⟩,?_⟩)
      exact Back_of (i + 1) [2,3,4,5,6] [(1502,3904),(128,128),(192,192),(256,256),(320,320),(1500,1500),(1501,1501),(1503,1503)] rfl rfl (by simp [hs]; rw [wrap64 (by omega) (by omega)]) (by omega) (by omega)
    · simp -dsimp [h1,ne_of_lt h1]
      repeat (first|refine ⟨by omega,?_⟩|refine ⟨by simp [capMax];omega,?_⟩|refine ⟨⟨by omega,by omega⟩,?_⟩)
      refine ACallK_of (f151_ok _ _ (by omega)) ?_
      cases g2:hasX b.lives (nth a.lives i)
      · have hs:livA a b (i + 1) = livA a b i:=by simp [livA,filK,keepA,g1,g2]
        simp -dsimp [h1,ne_of_lt h1]
        repeat (first|refine ⟨by omega,?_⟩|refine ⟨by simp [capMax];omega,?_⟩|refine ⟨⟨by omega,by omega⟩,?_⟩)
        exact Back_of (i + 1) [2,3,4,5,6] [(1502,1502),(128,128),(192,192),(256,256),(320,320),(1500,1500),(1501,1501),(1503,1503)] rfl rfl (by simp [hs]; rw [wrap64 (by omega) (by omega)]) (by omega) (by omega)
      · have hs:livA a b (i + 1) = livA a b i ++ [nth a.lives i]:=by simp [livA,filK,keepA,g1,g2]
        simp -dsimp [h1,ne_of_lt h1]
        repeat (first|refine ⟨by omega,?_⟩|refine ⟨by simp [capMax];omega,?_⟩|refine ⟨⟨by omega,by omega⟩,?_⟩)
        exact Back_of (i + 1) [2,3,4,5,6] [(1502,3904),(128,128),(192,192),(256,256),(320,320),(1500,1500),(1501,1501),(1503,1503)] rfl rfl (by simp [hs]; rw [wrap64 (by omega) (by omega)]) (by omega) (by omega)
  · obtain rfl:i = a.lives.length:=by omega
    clear hi h1
    simp -dsimp
    refine AWh_loop (fun i:Nat => i ≤ b.lives.length) (fun i => mkE [(2,.box 128 0),(3,.box 192 0),(4,.box 256 0),(5,.box 320 0),(8,.c (.int .i64 i))] [(1502,.arr 0 159 6 (livB a b i).length (flat (livB a b i))),(128,.box [.c (.im a.know.length (flat a.know)),.c (.im a.tallies.length (flat a.tallies)),.c (.im a.lives.length (flat a.lives)),.c (.im a.cs.length (flat a.cs))]),(192,.box [.c (.im b.know.length (flat b.know)),.c (.im b.tallies.length (flat b.tallies)),.c (.im b.lives.length (flat b.lives)),.c (.im b.cs.length (flat b.cs))]),(256,.box [.nil,.nil,.nil,.nil]),(320,.box [.arr 1500,.arr 1501,.arr 1502,.arr 1503]),(1500,.arr 0 3 1 (knowMax a.know b.know).length (flat (knowMax a.know b.know))),(1501,.arr 0 179 3 (talTwo a.know b.know a.tallies b.tallies).length (flat (talTwo a.know b.know a.tallies b.tallies))),(1503,.arr 0 72 8 (cellsU a.cs b.cs).length (flat (cellsU a.cs b.cs)))]) (fun i => b.lives.length - i) 0 (Wk_to [2,3,4,5,8] [(1502,1502),(128,128),(192,192),(256,256),(320,320),(1500,1500),(1501,1501),(1503,1503)] rfl rfl (by simp [livB,insN])) (by simp) ?_
    rintro i hi
    have hal:=livB_len a b i
    refine AW_of h24 TryzT_ok (by kernel_rfl) ?_
    rcases Nat.lt_or_ge i b.lives.length with h1 | h1
    · simp -dsimp [h1,ne_of_lt h1]
      repeat (first|refine ⟨by omega,?_⟩|refine ⟨by simp [capMax];omega,?_⟩|refine ⟨⟨by omega,by omega⟩,?_⟩)
      refine ACallK_of (f17_ok _ _ ha2.1) ?_
      cases g1:knows a.know (nth b.lives i).dot
      · have hs:livB a b (i + 1) = insF liveLt (nth b.lives i) (livB a b i):=by simp [livB,insN,newB,g1]
        simp -dsimp [h1,ne_of_lt h1]
        repeat (first|refine ⟨by omega,?_⟩|refine ⟨by simp [capMax];omega,?_⟩|refine ⟨⟨by omega,by omega⟩,?_⟩)
        refine ACallK_of (f152_ok _ _ (by omega)) ?_
        simp -dsimp
        exact Back_of (i + 1) [2,3,4,5,8] [(1502,5568),(128,128),(192,192),(256,256),(320,320),(1500,1500),(1501,1501),(1503,1503)] rfl rfl (by simp [hs]; rw [wrap64 (by omega) (by omega)]) (by omega) (by omega)
      · have hs:livB a b (i + 1) = livB a b i:=by simp [livB,insN,newB,g1]
        simp -dsimp [h1,ne_of_lt h1]
        repeat (first|refine ⟨by omega,?_⟩|refine ⟨by simp [capMax];omega,?_⟩|refine ⟨⟨by omega,by omega⟩,?_⟩)
        exact Back_of (i + 1) [2,3,4,5,8] [(1502,1502),(128,128),(192,192),(256,256),(320,320),(1500,1500),(1501,1501),(1503,1503)] rfl rfl (by simp [hs]; rw [wrap64 (by omega) (by omega)]) (by omega) (by omega)
    · obtain rfl:i = b.lives.length:=by omega
      clear hi h1
      simp -dsimp
      have hraw:(mergeRaw a b).Ok:=mergeRaw_ok ha hb ka kb
      refine ACallK_of (f70_ok (mergeRaw a b) hraw) ?_
      rw [stateOkS_eq]
      cases g:stateOk (mergeRaw a b)
      · simp -dsimp
        refine ACallK_of (f147_ok _ ha) ?_
        simp -dsimp
        simp [mergeState,ka,kb,g]
      · simp -dsimp
        simp [mergeState,ka,kb,g]
        simp [mergeRaw]
end Am
