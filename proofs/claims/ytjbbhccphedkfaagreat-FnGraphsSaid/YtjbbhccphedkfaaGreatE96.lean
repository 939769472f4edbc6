/- What is fetched: plainly. No condition. -/
import Derived.Test.YtjbbhccphedkfaaGreatD
import Derived.Test.YtjbbhccphedkfaaGreatE91
import Derived.Test.YtjbbhccphedkfaaGreatT
import Derived.Test.YtjbbhccphedkfaaGreatY3
import Derived.Test.YtjbbhccphedkfaaGreatE8
import Derived.Test.YtjbbhccphedkfaaGreatE56
import Derived.Test.YtjbbhccphedkfaaGreatAm31
import Derived.Test.YtjbbhccphedkfaaGreatAm29
set_option linter.unusedSimpArgs false
set_option linter.unusedVariables false
set_option linter.unnecessarySimpa false
set_option linter.unusedSectionVars false
namespace Am
open Go
theorem setK_mono (m:List Bool) (us:List Int) {y:Nat} (h:nth m y = true):∀ j,nth (setK m us j) y = true
  | 0 => h
  | j + 1 => by
    rw [setK,nth_set]
    split
    · rfl
    · exact setK_mono m us h j
theorem setK_mark (m:List Bool) (us:List Int) {i:Nat} (hl:(nth us i).toNat < m.length):∀ j,i < j → nth (setK m us j) (nth us i).toNat = true
  | 0,h => by omega
  | j + 1,h => by
    rw [setK,nth_set]
    by_cases e:i = j
    · subst e; rw [if_pos ⟨rfl,by rw [setK_len]; exact hl⟩]
    · split
      · rfl
      · exact setK_mark m us hl j (by omega)
theorem stepU_mono (g:GGraph) (m:List Bool) (i:Nat) {y:Nat} (h:nth m y = true):nth (stepU g m i) y = true:=by
  unfold stepU
  split
  · exact setK_mono m _ h _
  · exact h
theorem runM_mono (g:GGraph) (m:List Bool) (n d:Nat) {y:Nat} (h:nth (runM g m n d) y = true):∀ e,nth (runM g m n (d + e)) y = true
  | 0 => h
  | e + 1 => by rw [← Nat.add_assoc,runM]; exact stepU_mono _ _ _ (runM_mono g m n d h e)
theorem marks_closed {g:GGraph} (hu:upsLt g) {k x:Nat} (hk:k < g.commits.length) (hx:x ≤ k) (h:nth (marks g k) x = true) {j:Nat} (hj:j < (upsOf g x).length):nth (marks g k) (nth (upsOf g x) j).toNat = true:=by
  have hlt:=hu x (by omega) j hj
  have hat:=runM_at hu (n:=k + 1) (by omega) (startM (k + 1) k) (d:=k - x) (by omega)
  rw [show k + 1 - 1 - (k - x) = x by omega] at hat
  have h1:nth (runM g (startM (k + 1) k) (k + 1) (k - x)) x = true:=hat.trans h
  have h2:nth (runM g (startM (k + 1) k) (k + 1) (k - x + 1)) (nth (upsOf g x) j).toNat = true:=by
    rw [runM,show k + 1 - 1 - (k - x) = x by omega,stepU,if_pos h1]
    exact setK_mark _ _ (by simp; omega) _ hj
  have:=runM_mono g (startM (k + 1) k) (k + 1) (k - x + 1) h2 x
  rw [show k - x + 1 + x = k + 1 by omega] at this
  exact this
theorem markF_sorted (p:Nat → Bool):∀ n,(markF p n).Pairwise (· < ·)
  | 0 => List.Pairwise.nil
  | n + 1 => by
    rw [markF]
    split
    · rw [List.pairwise_append]
      refine ⟨markF_sorted p n,by simp,?_⟩
      intro a ha b hb
      obtain ⟨i,h1,_,h2⟩:=markF_mem.1 ha
      simp only [List.mem_singleton] at hb
      omega
    · exact markF_sorted p n
theorem upsL_F (g:GGraph) (k:Nat):upsL g k = markF (nth (marks g k)) (k + 1):=markK_F _ _
theorem upsL_at {g:GGraph} {k i:Nat} (h:i < (upsL g k).length):∃ x:Nat,x ≤ k ∧ nth (marks g k) x = true ∧ nth (upsL g k) i = x:=by
  have hm:=nth_mem h
  generalize nth (upsL g k) i = y at hm ⊢
  rw [upsL_F] at hm
  obtain ⟨x,h1,h2,h3⟩:=markF_mem.1 hm
  exact ⟨x,by omega,h2,h3⟩
theorem upsL_before {g:GGraph} {k i x u:Nat} (h:i < (upsL g k).length) (ex:nth (upsL g k) i = x) (hu:u < x) (hm:nth (marks g k) u = true):∃ j:Nat,j < i ∧ nth (upsL g k) j = u:=by
  have hxk:x ≤ k:=by obtain ⟨x',h1,_,h3⟩:=upsL_at h; omega
  have hmem:(u:Int) ∈ upsL g k:=by rw [upsL_F]; exact markF_mem.2 ⟨u,by omega,hm,rfl⟩
  obtain ⟨j,hj,ej⟩:=List.mem_iff_getElem.1 hmem
  refine ⟨j,?_,by rw [nth_eq hj,ej]⟩
  rcases Nat.lt_or_ge j i with h1 | h1
  · exact h1
  · have hp:(upsL g k).Pairwise (· < ·):=by rw [upsL_F]; exact markF_sorted _ _
    rw [nth_eq h] at ex
    rcases Nat.lt_or_ge i j with h2 | h2
    · have:=List.pairwise_iff_getElem.1 hp i j h hj h2
      omega
    · have:i = j:=by omega
      subst this; omega
def atC (cs:List GCommit) (d:GDot):Int:=idx (fun c:GCommit => decide (c.id = d)) cs
theorem atId_eq (g:GGraph) (d:GDot):atId g d = atC g.commits d:=rfl
theorem atC_cases (cs:List GCommit) (d:GDot):(∃ i:Nat,i < cs.length ∧ (nth cs i).id = d ∧ (∀ j:Nat,j < i → (nth cs j).id ≠ d) ∧ atC cs d = i) ∨ ((∀ j:Nat,j < cs.length → (nth cs j).id ≠ d) ∧ atC cs d = -1):=by
  have key:∀ n:Nat,n ≤ cs.length → (∃ i:Nat,i < n ∧ (nth cs i).id = d ∧ ∀ j:Nat,j < i → (nth cs j).id ≠ d) ∨ ∀ j:Nat,j < n → (nth cs j).id ≠ d:=by
    intro n
    induction n with
    | zero => intro _; right; intro j hj; omega
    | succ n ih =>
      intro hn
      rcases ih (by omega) with ⟨i,h1,h2,h3⟩ | h
      · exact Or.inl ⟨i,by omega,h2,h3⟩
      · by_cases e:(nth cs n).id = d
        · exact Or.inl ⟨n,by omega,e,h⟩
        · right; intro j hj
          by_cases e2:j = n
          · subst e2; exact e
          · exact h j (by omega)
  rcases key cs.length (Nat.le_refl _) with ⟨i,h1,h2,h3⟩ | h
  · exact Or.inl ⟨i,h1,h2,h3,idx_here h1 (fun j hj => by simp [h3 j hj]) (by simp [h2])⟩
  · exact Or.inr ⟨h,idx_none (fun j hj => by simp [h j hj])⟩
theorem atC_lt (cs:List GCommit) (d:GDot):atC cs d < cs.length:=by
  rcases atC_cases cs d with ⟨i,h1,_,_,h4⟩ | ⟨_,h⟩
  · omega
  · omega
theorem atC_id {cs:List GCommit} {d:GDot} (h:0 ≤ atC cs d):(nth cs (atC cs d).toNat).id = d:=by
  rcases atC_cases cs d with ⟨i,h1,h2,_,h4⟩ | ⟨_,h'⟩
  · rw [h4]; exact h2
  · omega
theorem atC_old {cs:List GCommit} {d:GDot} (y:GCommit) (h:0 ≤ atC cs d):atC (cs ++ [y]) d = atC cs d:=by
  rcases atC_cases cs d with ⟨i,h1,h2,h3,h4⟩ | ⟨_,h'⟩
  · rw [h4]
    exact idx_here (by simp; omega) (fun j hj => by rw [nth_append_left (by omega)]; simp [h3 j hj]) (by rw [nth_append_left h1]; simp [h2])
  · omega
theorem atC_new {cs:List GCommit} {y:GCommit} (h:atC cs y.id < 0):atC (cs ++ [y]) y.id = cs.length:=by
  rcases atC_cases cs y.id with ⟨i,h1,h2,h3,h4⟩ | ⟨h5,h'⟩
  · omega
  · exact idx_here (by simp) (fun j hj => by rw [nth_append_left (by omega)]; simp [h5 j hj]) (by rw [nth_append_right (Nat.le_refl _)]; simp [nth])
def upK (h:GGraph) (cs:List GCommit) (us:List Int):Nat → List Int
  | 0 => []
  | j + 1 => upK h cs us j ++ [atC cs (nth h.commits (nth us j).toNat).id]
@[simp] theorem upK_len (h:GGraph) (cs:List GCommit) (us:List Int):∀ j,(upK h cs us j).length = j
  | 0 => rfl
  | j + 1 => by simp [upK,upK_len h cs us j]
def fetY (h:GGraph) (cs:List GCommit) (x:Nat):GCommit:=⟨(nth h.commits x).id,sortI (upK h cs (upsOf h x) (upsOf h x).length),(nth h.commits x).state⟩
def fetC (h:GGraph) (cs:List GCommit) (x:Nat):List GCommit:=if 0 ≤ atC cs (nth h.commits x).id then cs else cs ++ [fetY h cs x]
def fetK (g h:GGraph) (L:List Int):Nat → List GCommit
  | 0 => g.commits
  | i + 1 => fetC h (fetK g h L i) (nth L i).toNat
def fetAll (g h:GGraph) (k:Nat):GGraph:=⟨fetK g h (upsL h k) (upsL h k).length,g.head⟩
def fetched (g h:GGraph) (k:Int):GGraph × Int :=
  if graphOk g && graphOk h && spIn k 0 (h.commits.length - 1) && graphOk (fetAll g h k.toNat) then (fetAll g h k.toNat,atC (fetAll g h k.toNat).commits (nth h.commits k.toNat).id) else (g,-1)
theorem fetK_len (g h:GGraph) (L:List Int):∀ i,(fetK g h L i).length ≤ g.commits.length + i
  | 0 => by simp [fetK]
  | i + 1 => by
    have:=fetK_len g h L i
    rw [fetK,fetC]
    split
    · omega
    · simp; omega
def atK (g h:GGraph) (L:List Int):Nat → List Int
  | 0 => List.replicate h.commits.length 0
  | i + 1 => (atK g h L i).set (nth L i).toNat (atC (fetK g h L (i + 1)) (nth h.commits (nth L i).toNat).id)
@[simp] theorem atK_len (g h:GGraph) (L:List Int):∀ i,(atK g h L i).length = h.commits.length
  | 0 => by simp [atK]
  | i + 1 => by simp [atK,atK_len g h L i]
def putK (at' us:List Int):Nat → List Int
  | 0 => []
  | j + 1 => putI (putK at' us j) (nth at' (nth us j).toNat)
theorem putI_len (l:List Int) (s:Int):(putI l s).length ≤ l.length + 1:=by
  unfold putI
  split
  · omega
  · rw [putGoI_len]; simp
theorem putK_len (at' us:List Int):∀ j,(putK at' us j).length ≤ j
  | 0 => Nat.le_refl _
  | j + 1 => by
    have:=putK_len at' us j
    have:=putI_len (putK at' us j) (nth at' (nth us j).toNat)
    rw [putK]; omega
theorem fetC_at (h:GGraph) (cs:List GCommit) (x:Nat):0 ≤ atC (fetC h cs x) (nth h.commits x).id:=by
  unfold fetC
  split
  · assumption
  · rename_i hn
    have:=atC_new (cs:=cs) (y:=fetY h cs x) (by simp only [fetY]; omega)
    simp only [fetY] at this ⊢
    rw [this]; omega
theorem fetC_old (h:GGraph) (cs:List GCommit) (x:Nat) {d:GDot} (hd:0 ≤ atC cs d):atC (fetC h cs x) d = atC cs d:=by
  unfold fetC
  split
  · rfl
  · exact atC_old _ hd
theorem atK_inv {g h:GGraph} {L:List Int} (hL:∀ i:Nat,i < L.length → (nth L i).toNat < h.commits.length):∀ i:Nat,i ≤ L.length → ∀ j:Nat,j < i → 0 ≤ atC (fetK g h L i) (nth h.commits (nth L j).toNat).id ∧ nth (atK g h L i) (nth L j).toNat = atC (fetK g h L i) (nth h.commits (nth L j).toNat).id
  | 0,_,j,hj => by omega
  | i + 1,hi,j,hj => by
    have hli:=hL i (by omega)
    by_cases e:(nth L j).toNat = (nth L i).toNat
    · refine ⟨by rw [e,fetK]; exact fetC_at _ _ _,?_⟩
      rw [atK,nth_set,if_pos ⟨e,by rw [atK_len]; exact hli⟩,e]
    · have hji:j < i:=by
        rcases Nat.lt_or_ge j i with h1 | h1
        · exact h1
        · have:j = i:=by omega
          subst this; exact absurd rfl e
      obtain ⟨h1,h2⟩:=atK_inv hL i (by omega) j hji
      have h3:=fetC_old h (fetK g h L i) (nth L i).toNat h1
      rw [fetK]
      refine ⟨by rw [h3]; exact h1,?_⟩
      rw [atK,nth_set,if_neg (fun hc => e hc.1),h2,h3]
theorem graphOk_com {g:GGraph} (h:graphOk g = true) {i:Nat} (hi:i < g.commits.length):comOk g i = true:=by
  simp only [graphOk,Bool.and_eq_true] at h
  exact allB_iff.1 h.2 i hi
theorem graphOk_id {g:GGraph} (h:graphOk g = true) {i:Nat} (hi:i < g.commits.length):atC g.commits (nth g.commits i).id = i:=by
  have:=graphOk_com h hi
  simp only [comOk,Bool.and_eq_true,beq_iff_eq] at this
  exact this.1.1.1.2
theorem graphOk_ups2 {g:GGraph} (h:graphOk g = true) {i:Nat} (hi:i < g.commits.length):(upsOf g i).length ≤ 2:=by
  have:=graphOk_com h hi
  simp only [comOk,Bool.and_eq_true,decide_eq_true_eq] at this
  exact this.1.2
theorem graphOk_asc {g:GGraph} (h:graphOk g = true) {i j:Nat} (hi:i < g.commits.length) (hj:j + 1 < (upsOf g i).length):nth (upsOf g i) j < nth (upsOf g i) (j + 1):=by
  have:=graphOk_com h hi
  simp only [comOk,Bool.and_eq_true] at this
  have:=allB_iff.1 this.2 (j + 1) hj
  simp only [upAt,Bool.and_eq_true,Bool.or_eq_true,decide_eq_true_eq,Nat.add_sub_cancel] at this
  rcases this.1.2 with h1 | h1
  · omega
  · exact h1
theorem putI_two {a b:Int} (hne:a ≠ b):putI [a] b = sortI [a,b]:=by
  have e0:hasI b [a] = false:=by simp [hasI,hne]
  rw [putI,e0]
  by_cases h:b < a
  · have h2:¬ a ≤ b:=by omega
    simp [putGoI,h,sortI,List.mergeSort,List.MergeSort.Internal.splitInTwo,List.merge,h2]
  · have h2:a ≤ b:=by omega
    simp [putGoI,h,sortI,List.mergeSort,List.MergeSort.Internal.splitInTwo,List.merge,h2]
theorem putK_eq {g h:GGraph} (hh:graphOk h = true) {k i x:Nat} (hk:k < h.commits.length) (hi:i < (upsL h k).length) (ex:nth (upsL h k) i = x):putK (atK g h (upsL h k) i) (upsOf h x) (upsOf h x).length = sortI (upK h (fetK g h (upsL h k) i) (upsOf h x) (upsOf h x).length):=by
  have hu:=graphOk_ups hh
  obtain ⟨x',hx1,hx2,hx3⟩:=upsL_at hi
  have:x = x':=by omega
  subst this
  have hxl:x < h.commits.length:=by omega
  have key:∀ j:Nat,j < (upsOf h x).length → 0 ≤ atC (fetK g h (upsL h k) i) (nth h.commits (nth (upsOf h x) j).toNat).id ∧ nth (atK g h (upsL h k) i) (nth (upsOf h x) j).toNat = atC (fetK g h (upsL h k) i) (nth h.commits (nth (upsOf h x) j).toNat).id:=by
    intro j hj
    have hb:=hu x hxl j hj
    have hm:=marks_closed hu hk hx1 hx2 hj
    obtain ⟨y,hy1,hy2⟩:=upsL_before hi ex (u:=(nth (upsOf h x) j).toNat) (by omega) hm
    have:=atK_inv (g:=g) (h:=h) (L:=upsL h k) (fun a ha => by obtain ⟨z,h1,_,h3⟩:=upsL_at ha; omega) i (by omega) y hy1
    rw [hy2,Int.toNat_natCast] at this
    exact this
  have hl:=graphOk_ups2 hh hxl
  have hasc:=fun j => graphOk_asc (j:=j) hh hxl
  have hbs:=fun j => hu x hxl j
  generalize upsOf h x = us at key hl hasc hbs ⊢
  match us,hl with
  | [],_ => simp [putK,upK,sortI]
  | [u],_ =>
    obtain ⟨_,k2⟩:=key 0 (by simp)
    simp only [List.length_singleton,putK,upK,List.nil_append]
    rw [k2]
    simp [putI,hasI,putGoI,sortI]
  | [u,v],_ =>
    obtain ⟨a1,a2⟩:=key 0 (by simp)
    obtain ⟨b1,b2⟩:=key 1 (by simp)
    have hlt:=hasc 0 (by simp)
    rw [Nat.zero_add] at hlt
    have hb0:=hbs 0 (by simp)
    have hb1:=hbs 1 (by simp)
    simp only [List.length_cons,List.length_nil,putK,upK,List.nil_append,List.singleton_append,Nat.zero_add,Nat.reduceAdd]
    rw [a2,b2]
    have e1:∀ a:Int,putI [] a = [a]:=fun a => by simp [putI,hasI,putGoI]
    rw [e1]
    apply putI_two
    intro e
    have i1:=atC_id a1
    have i2:=atC_id b1
    rw [← e,i1] at i2
    have n0:(nth [u,v] 0).toNat < h.commits.length:=by omega
    have n1:(nth [u,v] 1).toNat < h.commits.length:=by omega
    have q1:=graphOk_id hh n0
    have q2:=graphOk_id hh n1
    rw [i2,q2] at q1
    omega
end Am
namespace Am
open Go Go.Proofs
open Cel (cells)
set_option maxRecDepth 100000
theorem upsL_self {g:GGraph} (hu:upsLt g) {k:Nat} (hk:k < g.commits.length):∃ j:Nat,j < (upsL g k).length ∧ nth (upsL g k) j = k:=by
  have hm:nth (marks g k) k = true:=by
    have:=runM_keep hu (n:=k + 1) (by omega) (startM (k + 1) k) 0 (k + 1) (by omega) k (by omega)
    rw [Nat.zero_add] at this
    unfold marks
    rw [this,runM,startM,nth_set]
    simp
  have hmem:(k:Int) ∈ upsL g k:=by rw [upsL_F]; exact markF_mem.2 ⟨k,by omega,hm,rfl⟩
  obtain ⟨j,hj,ej⟩:=List.mem_iff_getElem.1 hmem
  exact ⟨j,hj,by rw [nth_eq hj,ej]⟩
theorem fetK_ok {g h:GGraph} (hg:g.Ok) (hh:h.Ok) (kh:graphOk h = true) (kg:graphOk g = true) {k:Nat} (hk:k < h.commits.length):∀ i:Nat,i ≤ (upsL h k).length → (⟨fetK g h (upsL h k) i,g.head⟩:GGraph).Ok:=by
  have lg:g.commits.length ≤ 80:=by simp only [graphOk,Bool.and_eq_true,decide_eq_true_eq] at kg; exact kg.1.1
  have lh:h.commits.length ≤ 80:=by simp only [graphOk,Bool.and_eq_true,decide_eq_true_eq] at kh; exact kh.1.1
  have hul:=upsL_len h k
  intro i
  induction i with
  | zero => intro _; simpa only [fetK] using hg
  | succ i ih =>
    intro hi
    have ih:=ih (by omega)
    have hfl:=fetK_len g h (upsL h k) (i + 1)
    rw [fetK] at hfl
    simp only [GGraph.Ok] at ih hh ⊢
    rw [fetK]
    refine ⟨by omega,?_⟩
    rw [fetC]
    split
    · exact ih.2
    · intro y hy
      rcases List.mem_append.1 hy with hy | hy
      · exact ih.2 y hy
      · simp only [List.mem_singleton] at hy
        subst hy
        obtain ⟨x,hx1,_,hx2⟩:=upsL_at (g:=h) (k:=k) (i:=i) (by omega)
        have hxl:x < h.commits.length:=by omega
        have hc:=hh.2 _ (nth_mem hxl)
        have h2:=graphOk_ups2 kh hxl
        rw [hx2,Int.toNat_natCast]
        simp only [GCommit.Ok,fetY] at hc ⊢
        rw [sortI_len,upK_len]
        exact ⟨by omega,hc.2⟩
@[simp] def h22:Hts:={ merge:=fun _ => false,mergeF:=fun _ => false,lend:=fun f => if f = 79 then [.lend] else [],dr:=fun id => if id = 13 then [{ mb:=[67,68] },{},{},{},{},{},{},{},{ cr:=true },{ cr:=true },{ wr:=[3776,3264],cr:=true },{}] else if id = 16 then [{ mn:=[3264,5120,5121,5122,5123],mb:=[80,82] },{ mn:=[3264,5120,5121,5122,5123],mb:=[80,82] },{ mb:=[80] },{ mb:=[80] },{ mb:=[80] },{},{},{ cr:=true },{},{ wr:=[3264,5120,5121,5122,5123],cr:=true },{ wr:=[4736,2048,5248],cr:=true },{},{ wr:=[512] }] else if id = 20 then [{ mb:=[99] },{},{},{},{},{},{},{},{ cr:=true },{ wr:=[384] },{}] else [] }
set_option maxHeartbeats 8000000 in
theorem f22_ok (g h:GGraph) (hg:g.Ok) (hh:h.Ok) (k:Int):FnR Tryz.prog 22 [.agg [.im g.commits.length (flat g.commits),.int .i64 g.head],.agg [.im h.commits.length (flat h.commits),.int .i64 h.head],.v (.int .i64 k)] (.tup [.agg [.ow 62 7 ((fetched g h k).1).commits.length (flatO ((fetched g h k).1).commits),.int .i64 ((fetched g h k).1).head],.v (.int .i64 ((fetched g h k).2))]):=by
  have hgo:=hg
  have hho:=hh
  simp only [GGraph.Ok] at hg hh
  have hl:∀ y,y ∈ h.commits → y.ups.length ≤ 1073741824:=fun y hy => by have:=hh.2 y hy; simp only [GCommit.Ok] at this; exact this.1
  refine FnW.of_AW TryzT_ok 0 (fn:=Tryz.f22) (by kernel_rfl) rfl (by kernel_rfl) rfl rfl rfl ?_; refine AW_of h22 TryzT_ok (by kernel_rfl) ?_
  simp -dsimp
  refine ACallK_of (f25_ok _ hgo) ?_
  cases q1:graphOk g
  · simp -dsimp
    refine ACallK_of (f76_ok _ hgo) ?_
    simp -dsimp
    simp [fetched,q1]
  simp -dsimp
  refine ACallK_of (f25_ok _ hho) ?_
  cases q2:graphOk h
  · simp -dsimp
    refine ACallK_of (f76_ok _ hgo) ?_
    simp -dsimp
    simp [fetched,q2]
  simp -dsimp
  refine ACallK_of (f75_ok _ _ hh.1) ?_
  cases q3:spIn k 0 (h.commits.length - 1)
  · simp -dsimp
    refine ACallK_of (f76_ok _ hgo) ?_
    simp -dsimp
    simp [fetched,q3]
  have hk:=q3
  simp only [spIn,Bool.and_eq_true,decide_eq_true_eq] at hk
  obtain ⟨n,rfl⟩:∃ n:Nat,k = n:=⟨k.toNat,by omega⟩
  have hu:=graphOk_ups q2
  have hn:n < h.commits.length:=by omega
  simp -dsimp
  refine ACallK_of (f76_ok _ hgo) ?_
  simp -dsimp
  refine ACallK_of (f77_ok _ hu hh.1 hl n hn) ?_
  simp -dsimp
  have ln:=upsL_len h n
  have lh:h.commits.length ≤ 80:=by simp only [graphOk,Bool.and_eq_true,decide_eq_true_eq] at q2; exact q2.1.1
  refine AWh_loop (fun i:Nat => i ≤ (upsL h n).length) (fun i => mkE [(2,.c (.int .i64 n)),(3,.box 192 0),(4,.box 256 0),(6,.box 384 0),(8,.box 512 0),(35,.arr 2240),(36,.c (.int .i64 (upsL h n).length)),(37,.c (.int .i64 i))] [(192,.box [.c (.im g.commits.length (flat g.commits)),.c (.int .i64 g.head)]),(256,.box [.c (.im h.commits.length (flat h.commits)),.c (.int .i64 h.head)]),(384,.box [.nil,.c (.int .i64 0)]),(512,.box [.arr 2048,.c (.int .i64 g.head)]),(2048,.arr 0 62 7 (fetK g h (upsL h n) i).length (flatO (fetK g h (upsL h n) i))),(2240,.arr 0 3 1 (upsL h n).length (flat (upsL h n)))]) (fun i => (upsL h n).length - i) 0 (Wk_to [2,3,4,6,8,35,36,37] [(192,192),(256,256),(384,384),(512,512),(2048,2048),(2240,2240)] rfl rfl (by simp [fetK])) (by simp) ?_
  rintro i hi
  have hfk:=fetK_ok hgo hho q2 q1 hn i hi
  have hfl:=fetK_len g h (upsL h n) i
  have hfo:=hfk
  simp only [GGraph.Ok] at hfk
  refine AW_of h22 TryzT_ok (by kernel_rfl) ?_
  rcases Nat.lt_or_ge i (upsL h n).length with h1 | h1
  · obtain ⟨x,hx1,hx2,hx3⟩:=upsL_at h1
    have hxl:x < h.commits.length:=by omega
    have hxt:(nth (upsL h n) i).toNat = x:=by omega
    have hcx:=hh.2 _ (nth_mem hxl)
    simp only [GCommit.Ok] at hcx
    simp -dsimp [h1,ne_of_lt h1,hx3,hxl,ne_of_lt hxl]
    repeat (first|refine ⟨by omega,?_⟩|refine ⟨by simp [capMax];omega,?_⟩|refine ⟨⟨by omega,by omega⟩,?_⟩)
    refine ACallK_of (f78_ok (⟨fetK g h (upsL h n) i,g.head⟩:GGraph) (nth h.commits x).id hfk.1) ?_
    rw [atId_eq]
    by_cases qa:0 ≤ atC (fetK g h (upsL h n) i) (nth h.commits x).id
    · have hs:fetK g h (upsL h n) (i + 1) = fetK g h (upsL h n) i:=by rw [fetK,fetC,hxt,if_pos qa]
      simp -dsimp [qa]
      exact Back_of (i + 1) [2,3,4,6,8,35,36,37] [(192,192),(256,256),(384,384),(512,512),(2048,2048),(2240,2240)] rfl rfl (by simp [hs]; rw [wrap64 (by omega) (by omega)]) (by omega) (by omega)
    have hs:fetK g h (upsL h n) (i + 1) = fetK g h (upsL h n) i ++ [fetY h (fetK g h (upsL h n) i) x]:=by rw [fetK,fetC,hxt,if_neg qa]
    have hup2:=graphOk_ups2 q2 hxl
    have eu:(nth h.commits x).ups = upsOf h x:=rfl
    simp -dsimp [qa]
    refine AWh_loop (fun j:Nat => j ≤ (upsOf h x).length) (fun j => mkE [(2,.c (.int .i64 n)),(3,.box 192 0),(4,.box 256 0),(6,.box 384 0),(8,.box 512 0),(11,.box 704 0),(12,.arr 3264),(35,.arr 2240),(36,.c (.int .i64 (upsL h n).length)),(37,.c (.int .i64 i)),(53,.c (.im (upsOf h x).length (flat (upsOf h x)))),(54,.c (.int .i64 (upsOf h x).length)),(55,.c (.int .i64 j))] [(192,.box [.c (.im g.commits.length (flat g.commits)),.c (.int .i64 g.head)]),(256,.box [.c (.im h.commits.length (flat h.commits)),.c (.int .i64 h.head)]),(384,.box [.nil,.c (.int .i64 0)]),(512,.box [.arr 2048,.c (.int .i64 g.head)]),(704,.box [.c (.int .i64 ((nth h.commits x)).id.rep),.c (.int .i64 ((nth h.commits x)).id.seq),.c (.im ((nth h.commits x)).ups.length (flat ((nth h.commits x)).ups)),.c (.im ((nth h.commits x)).state.know.length (flat ((nth h.commits x)).state.know)),.c (.im ((nth h.commits x)).state.tallies.length (flat ((nth h.commits x)).state.tallies)),.c (.im ((nth h.commits x)).state.lives.length (flat ((nth h.commits x)).state.lives)),.c (.im ((nth h.commits x)).state.cs.length (flat ((nth h.commits x)).state.cs))]),(2048,.arr 0 62 7 (fetK g h (upsL h n) i).length (flatO (fetK g h (upsL h n) i))),(2240,.arr 0 3 1 (upsL h n).length (flat (upsL h n))),(3264,.arr 0 3 1 (upK h (fetK g h (upsL h n) i) (upsOf h x) j).length (flat (upK h (fetK g h (upsL h n) i) (upsOf h x) j)))]) (fun j => (upsOf h x).length - j) 0 (Wk_to [2,3,4,6,8,11,12,35,36,37,53,54,55] [(192,192),(256,256),(384,384),(512,512),(704,704),(2048,2048),(2240,2240),(3264,3264)] rfl rfl (by simp [upK,eu])) (by simp) ?_
    rintro j hj
    have hul:=upK_len h (fetK g h (upsL h n) i) (upsOf h x) j
    refine AW_of h22 TryzT_ok (by kernel_rfl) ?_
    rcases Nat.lt_or_ge j (upsOf h x).length with p1 | p1
    · have hb:=hu x hxl j p1
      have b1:(nth (upsOf h x) j).toNat < h.commits.length:=by omega
      have b2:0 ≤ nth (upsOf h x) j:=hb.1
      have b3:nth (upsOf h x) j < (h.commits.length:Int):=by omega
      simp -dsimp [p1,ne_of_lt p1,b1,ne_of_lt b1,b2,b3]
      repeat (first|refine ⟨by omega,?_⟩|refine ⟨by simp [capMax];omega,?_⟩|refine ⟨⟨by omega,by omega⟩,?_⟩)
      refine ACallK_of (f78_ok (⟨fetK g h (upsL h n) i,g.head⟩:GGraph) (nth h.commits (nth (upsOf h x) j).toNat).id hfk.1) ?_
      rw [atId_eq]
      simp -dsimp
      repeat (first|refine ⟨by omega,?_⟩|refine ⟨by simp [capMax];omega,?_⟩|refine ⟨⟨by omega,by omega⟩,?_⟩)
      exact Back_of (j + 1) [2,3,4,6,8,11,12,35,36,37,53,54,55] [(192,192),(256,256),(384,384),(512,512),(704,704),(2048,2048),(2240,2240),(3264,4416)] rfl rfl (by simp [upK]; rw [wrap64 (by omega) (by omega)]) (by omega) (by omega)
    obtain rfl:j = (upsOf h x).length:=by omega
    simp -dsimp
    refine ACallW_go ?_
    have hc:=f79_ok (upK h (fetK g h (upsL h n) i) (upsOf h x) (upsOf h x).length) (by omega)
    rw [upK_len] at hc
    refine ACallC_go (fun us => hc) ?_
    have hsl:=sortI_len (upK h (fetK g h (upsL h n) i) (upsOf h x) (upsOf h x).length)
    simp -dsimp
    refine ACallK_of (f80_ok _ hcx.2) ?_
    simp -dsimp
    repeat (first|refine ⟨by omega,?_⟩|refine ⟨by simp [capMax];omega,?_⟩|refine ⟨⟨by omega,by omega⟩,?_⟩)
    have ha:flatO (fetK g h (upsL h n) i ++ [fetY h (fetK g h (upsL h n) i) x]) = flatO (fetK g h (upsL h n) i) ++ CelO.cellsO (fetY h (fetK g h (upsL h n) i) x):=by rw [flatO_append,flatO_cons,flatO_nil,List.append_nil]
    simp only [fetY] at ha
    exact Back_of (i + 1) [2,3,4,6,8,35,36,37] [(192,192),(256,256),(384,384),(512,512),(2048,5312),(2240,2240)] rfl rfl (by simp [hs,ha,fetY,hsl,CelO.cellsO]; rw [wrap64 (by omega) (by omega)]) (by omega) (by omega)
  obtain rfl:i = (upsL h n).length:=by omega
  simp -dsimp
  refine ACallK_of (f25_ok (⟨fetK g h (upsL h n) (upsL h n).length,g.head⟩:GGraph) hfo) ?_
  cases q4:graphOk (⟨fetK g h (upsL h n) (upsL h n).length,g.head⟩:GGraph)
  · simp -dsimp
    refine ACallK_of (f76_ok _ hgo) ?_
    simp -dsimp
    simp [fetched,fetAll,q1,q2,q3,q4]
  simp -dsimp [hn,ne_of_lt hn]
  repeat (first|refine ⟨by omega,?_⟩|refine ⟨by simp [capMax];omega,?_⟩|refine ⟨⟨by omega,by omega⟩,?_⟩)
  refine ACallK_of (f78_ok (⟨fetK g h (upsL h n) (upsL h n).length,g.head⟩:GGraph) (nth h.commits n).id hfk.1) ?_
  rw [atId_eq]
  simp -dsimp
  simp [fetched,fetAll,q1,q2,q3,q4]
@[simp] def h133:Hts:={ merge:=fun _ => false,mergeF:=fun _ => false,lend:=fun f => if f = 174 then [.lend] else [],dr:=fun id => if id = 9 then [{ mb:=[12] },{ mb:=[12] },{ mb:=[12] },{ mb:=[12] },{ mb:=[12] },{ mb:=[12] },{ mb:=[12] },{ mb:=[12] },{ cr:=true },{ wr:=[768] }] else if id = 12 then [{ mb:=[68,14] },{ mb:=[68,14] },{ mb:=[14] },{ mb:=[14] },{ cr:=true,mb:=[14] },{ mb:=[14] },{ cr:=true,mb:=[68] },{ wr:=[896] }] else if id = 16 then [{},{},{},{},{},{},{},{},{},{},{ wr:=[900001],cr:=true },{},{ wr:=[896] }] else if id = 22 then [{},{ mn:=[384] },{ mn:=[384] },{ mn:=[384] },{ mn:=[384] },{ wr:=[384] },{}] else [] }
set_option maxHeartbeats 8000000 in
theorem f133_ok (g h:GGraph) (hg:g.Ok) (hh:h.Ok) (k:Int):FnR Tryz.prog 133 [.agg [.im g.commits.length (flat g.commits),.int .i64 g.head],.agg [.im h.commits.length (flat h.commits),.int .i64 h.head],.v (.int .i64 k)] (.tup [.agg [.ow 62 7 ((fetched g h k).1).commits.length (flatO ((fetched g h k).1).commits),.int .i64 ((fetched g h k).1).head],.v (.int .i64 ((fetched g h k).2))]):=by
  have hgo:=hg
  have hho:=hh
  simp only [GGraph.Ok] at hg hh
  have hl:∀ y,y ∈ h.commits → y.ups.length ≤ 1073741824:=fun y hy => by have:=hh.2 y hy; simp only [GCommit.Ok] at this; exact this.1
  have w0:IntKind.i64.wrap ((h.commits.length:Int) - 1) = h.commits.length - 1:=wrap64 (by omega) (by omega)
  refine FnW.of_AW TryzT_ok 0 (fn:=Tryz.f133) (by kernel_rfl) rfl (by kernel_rfl) rfl rfl rfl ?_; refine AW_of h133 TryzT_ok (by kernel_rfl) ?_
  simp -dsimp
  refine ACallK_of (f173_ok _ hgo) ?_
  simp -dsimp
  refine ACallK_of (f85_ok _ hgo) ?_
  cases q1:graphOk g
  · simp -dsimp
    simp [fetched,q1]
  simp -dsimp
  refine ACallK_of (f85_ok _ hho) ?_
  cases q2:graphOk h
  · simp -dsimp
    simp [fetched,q2]
  simp -dsimp [w0]
  refine ACallK_of (f86_ok _ _ _) ?_
  cases q3:spIn k 0 (h.commits.length - 1)
  · simp -dsimp
    simp [fetched,q3]
  have hk:=q3
  simp only [spIn,Bool.and_eq_true,decide_eq_true_eq] at hk
  obtain ⟨n,rfl⟩:∃ n:Nat,k = n:=⟨k.toNat,by omega⟩
  have hu:=graphOk_ups q2
  have hn:n < h.commits.length:=by omega
  have hm2:=f87_ok (marksS h n) (by simp; omega)
  rw [marksS_len,upsL_S hu hn] at hm2
  simp -dsimp
  refine ACallK_of (f88_ok _ hu hh.1 hl n hn) ?_
  simp -dsimp
  refine ACallK_of (hm2) ?_
  simp -dsimp
  repeat (first|refine ⟨by omega,?_⟩|refine ⟨by simp [capMax];omega,?_⟩|refine ⟨⟨by omega,by omega⟩,?_⟩)
  have ln:=upsL_len h n
  have lh:h.commits.length ≤ 80:=by simp only [graphOk,Bool.and_eq_true,decide_eq_true_eq] at q2; exact q2.1.1
  refine AWh_loop (fun i:Nat => i ≤ (upsL h n).length) (fun i => mkE [(2,.c (.int .i64 n)),(3,.box 192 0),(4,.box 256 0),(6,.box 384 0),(8,.box 512 0),(9,.arr 2496),(10,.arr 2752),(11,.c (.int .i64 i))] [(192,.box [.c (.im g.commits.length (flat g.commits)),.c (.int .i64 g.head)]),(256,.box [.c (.im h.commits.length (flat h.commits)),.c (.int .i64 h.head)]),(384,.box [.nil,.c (.int .i64 0)]),(512,.box [.arr 1088,.c (.int .i64 g.head)]),(1088,.arr 0 62 7 (fetK g h (upsL h n) i).length (flatO (fetK g h (upsL h n) i))),(2496,.arr 0 3 1 (upsL h n).length (flat (upsL h n))),(2752,.arr 0 3 1 h.commits.length (flat (atK g h (upsL h n) i)))]) (fun i => (upsL h n).length - i) 0 (Wk_to [2,3,4,6,8,9,10,11] [(192,192),(256,256),(384,384),(512,512),(1088,1088),(2496,2496),(2752,2752)] rfl rfl (by simp [fetK,atK])) (by simp) ?_
  rintro i hi
  have hfk:=fetK_ok hgo hho q2 q1 hn i hi
  have hfl:=fetK_len g h (upsL h n) i
  have hfo:=hfk
  have hal:=atK_len g h (upsL h n) i
  simp only [GGraph.Ok] at hfk
  refine AW_of h133 TryzT_ok (by kernel_rfl) ?_
  rcases Nat.lt_or_ge i (upsL h n).length with h1 | h1
  · obtain ⟨x,hx1,hx2,hx3⟩:=upsL_at h1
    have hxl:x < h.commits.length:=by omega
    have hxt:(nth (upsL h n) i).toNat = x:=by omega
    have hcx:=hh.2 _ (nth_mem hxl)
    have hna:¬ atK g h (upsL h n) i = []:=ne_of_lt (i:=x) (by rw [hal]; exact hxl)
    simp only [GCommit.Ok] at hcx
    simp -dsimp [h1,ne_of_lt h1,hx3,hxl,ne_of_lt hxl]
    repeat (first|refine ⟨by omega,?_⟩|refine ⟨by simp [capMax];omega,?_⟩|refine ⟨⟨by omega,by omega⟩,?_⟩)
    refine ACallK_of (f152_ok (⟨fetK g h (upsL h n) i,g.head⟩:GGraph) (nth h.commits x).id hfk.1) ?_
    rw [atId_eq]
    by_cases qa:0 ≤ atC (fetK g h (upsL h n) i) (nth h.commits x).id
    · have hs:fetK g h (upsL h n) (i + 1) = fetK g h (upsL h n) i:=by rw [fetK,fetC,hxt,if_pos qa]
      have hs2:atK g h (upsL h n) (i + 1) = (atK g h (upsL h n) i).set x (atC (fetK g h (upsL h n) i) (nth h.commits x).id):=by rw [atK,hs,hxt]
      have qa':¬ atC (fetK g h (upsL h n) i) (nth h.commits x).id < 0:=by omega
      simp -dsimp [qa',h1,ne_of_lt h1,hx3,hxl,hna,hal]
      repeat (first|refine ⟨by omega,?_⟩|refine ⟨by simp [capMax];omega,?_⟩|refine ⟨⟨by omega,by omega⟩,?_⟩)
      exact Back_of (i + 1) [2,3,4,6,8,9,10,11] [(192,192),(256,256),(384,384),(512,512),(1088,1088),(2496,2496),(2752,2752)] rfl rfl (by simp [hs,hs2]; rw [wrap64 (by omega) (by omega)]) (by omega) (by omega)
    have qa':atC (fetK g h (upsL h n) i) (nth h.commits x).id < 0:=by omega
    have hs:fetK g h (upsL h n) (i + 1) = fetK g h (upsL h n) i ++ [fetY h (fetK g h (upsL h n) i) x]:=by rw [fetK,fetC,hxt,if_neg qa]
    have hnew:atC (fetK g h (upsL h n) (i + 1)) (nth h.commits x).id = (fetK g h (upsL h n) i).length:=by rw [hs]; exact atC_new (y:=fetY h (fetK g h (upsL h n) i) x) qa'
    have hs2:atK g h (upsL h n) (i + 1) = (atK g h (upsL h n) i).set x (fetK g h (upsL h n) i).length:=by rw [atK,hxt,hnew]
    have hput:=putK_eq (g:=g) q2 hn h1 hx3
    have hup2:=graphOk_ups2 q2 hxl
    have eu:(nth h.commits x).ups = upsOf h x:=rfl
    simp -dsimp [qa']
    repeat (first|refine ⟨by omega,?_⟩|refine ⟨by simp [capMax];omega,?_⟩|refine ⟨⟨by omega,by omega⟩,?_⟩)
    refine ACallK_of (f90_ok _ hcx.2) ?_
    simp -dsimp
    refine AWh_loop (fun j:Nat => j ≤ (upsOf h x).length) (fun j => mkE [(2,.c (.int .i64 n)),(3,.box 192 0),(4,.box 256 0),(6,.box 384 0),(8,.box 512 0),(9,.arr 2496),(10,.arr 2752),(11,.c (.int .i64 i)),(12,.box 768 0),(14,.box 896 0),(15,.c (.int .i64 j))] [(900001,.arr 0 3 1 (putK (atK g h (upsL h n) i) (upsOf h x) j).length (flat (putK (atK g h (upsL h n) i) (upsOf h x) j))),(192,.box [.c (.im g.commits.length (flat g.commits)),.c (.int .i64 g.head)]),(256,.box [.c (.im h.commits.length (flat h.commits)),.c (.int .i64 h.head)]),(384,.box [.nil,.c (.int .i64 0)]),(512,.box [.arr 1088,.c (.int .i64 g.head)]),(768,.box [.c (.int .i64 ((nth h.commits x)).id.rep),.c (.int .i64 ((nth h.commits x)).id.seq),.c (.im ((nth h.commits x)).ups.length (flat ((nth h.commits x)).ups)),.c (.im ((nth h.commits x)).state.know.length (flat ((nth h.commits x)).state.know)),.c (.im ((nth h.commits x)).state.tallies.length (flat ((nth h.commits x)).state.tallies)),.c (.im ((nth h.commits x)).state.lives.length (flat ((nth h.commits x)).state.lives)),.c (.im ((nth h.commits x)).state.cs.length (flat ((nth h.commits x)).state.cs))]),(896,.box [.c (.int .i64 (nth h.commits x).id.rep),.c (.int .i64 (nth h.commits x).id.seq),.arr 900001,.arr 4352,.arr 4353,.arr 4354,.arr 4355]),(1088,.arr 0 62 7 (fetK g h (upsL h n) i).length (flatO (fetK g h (upsL h n) i))),(2496,.arr 0 3 1 (upsL h n).length (flat (upsL h n))),(2752,.arr 0 3 1 h.commits.length (flat (atK g h (upsL h n) i))),(4352,.arr 0 3 1 (nth h.commits x).state.know.length (flat (nth h.commits x).state.know)),(4353,.arr 0 104 3 (nth h.commits x).state.tallies.length (flat (nth h.commits x).state.tallies)),(4354,.arr 0 98 6 (nth h.commits x).state.lives.length (flat (nth h.commits x).state.lives)),(4355,.arr 0 100 8 (nth h.commits x).state.cs.length (flat (nth h.commits x).state.cs))]) (fun j => (upsOf h x).length - j) 0 (Wk_toA [2,3,4,6,8,9,10,11,12,14,15] [(192,192),(256,256),(384,384),(512,512),(768,768),(896,896),(1088,1088),(2496,2496),(2752,2752),(4352,4352),(4353,4353),(4354,4354),(4355,4355)] [.cell 896 2 900001 3 1] rfl rfl (by simp [putK])) (by simp) ?_
    rintro j hj
    have hpl:=putK_len (atK g h (upsL h n) i) (upsOf h x) j
    refine AW_of h133 TryzT_ok (by kernel_rfl) ?_
    rcases Nat.lt_or_ge j (upsOf h x).length with p1 | p1
    · have hb:=hu x hxl j p1
      have b1:(nth (upsOf h x) j).toNat < h.commits.length:=by omega
      have b2:0 ≤ nth (upsOf h x) j:=hb.1
      have b3:nth (upsOf h x) j < (h.commits.length:Int):=by omega
      simp -dsimp [eu,p1,ne_of_lt p1,b1,hna,hal,b2,b3]
      repeat (first|refine ⟨by omega,?_⟩|refine ⟨by simp [capMax];omega,?_⟩|refine ⟨⟨by omega,by omega⟩,?_⟩)
      refine ACallW_go ?_
      refine ACallC_go (fun us => f174_ok (putK (atK g h (upsL h n) i) (upsOf h x) j) (nth (atK g h (upsL h n) i) (nth (upsOf h x) j).toNat) (by omega)) ?_
      simp -dsimp
      repeat (first|refine ⟨by omega,?_⟩|refine ⟨by simp [capMax];omega,?_⟩|refine ⟨⟨by omega,by omega⟩,?_⟩)
      exact Back_of (j + 1) [2,3,4,6,8,9,10,11,12,14,15] [(900001,5568),(192,192),(256,256),(384,384),(512,512),(768,768),(896,896),(1088,1088),(2496,2496),(2752,2752),(4352,4352),(4353,4353),(4354,4354),(4355,4355)] rfl rfl (by simp [putK,eu]; rw [wrap64 (by omega) (by omega)]) (by omega) (by omega)
    obtain rfl:j = (upsOf h x).length:=by omega
    rw [hput]
    have hsl:=sortI_len (upK h (fetK g h (upsL h n) i) (upsOf h x) (upsOf h x).length)
    have wl:IntKind.i64.wrap ((fetK g h (upsL h n) i).length:Int) = (fetK g h (upsL h n) i).length:=by rw [wrap64 (by omega) (by omega)]
    simp -dsimp [eu,h1,ne_of_lt h1,hx3,hxl,hna,hal,wl]
    repeat (first|refine ⟨by omega,?_⟩|refine ⟨by simp [capMax];omega,?_⟩|refine ⟨⟨by omega,by omega⟩,?_⟩)
    have ha:flatO ((fetK g h (upsL h n) i) ++ [fetY h (fetK g h (upsL h n) i) x]) = flatO (fetK g h (upsL h n) i) ++ CelO.cellsO (fetY h (fetK g h (upsL h n) i) x):=by rw [flatO_append,flatO_cons,flatO_nil,List.append_nil]
    simp only [fetY] at ha
    exact Back_of (i + 1) [2,3,4,6,8,9,10,11] [(192,192),(256,256),(384,384),(512,512),(1088,5952),(2496,2496),(2752,2752)] rfl rfl (by simp [hs,hs2,ha,fetY,hsl,CelO.cellsO]; rw [wrap64 (by omega) (by omega)]) (by omega) (by omega)
  obtain rfl:i = (upsL h n).length:=by omega
  simp -dsimp
  refine ACallK_of (f85_ok (⟨fetK g h (upsL h n) (upsL h n).length,g.head⟩:GGraph) hfo) ?_
  cases q4:graphOk (⟨fetK g h (upsL h n) (upsL h n).length,g.head⟩:GGraph)
  · simp -dsimp
    refine ACallK_of (f173_ok _ hgo) ?_
    simp -dsimp
    simp [fetched,fetAll,q1,q2,q3,q4]
  have hna:¬ atK g h (upsL h n) (upsL h n).length = []:=ne_of_lt (i:=n) (by rw [hal]; exact hn)
  have hlast:nth (atK g h (upsL h n) (upsL h n).length) n = atC (fetK g h (upsL h n) (upsL h n).length) (nth h.commits n).id:=by
    obtain ⟨j,hj,ej⟩:=upsL_self (g:=h) hu hn
    have:=(atK_inv (g:=g) (h:=h) (L:=upsL h n) (fun a ha => by obtain ⟨z,h1,_,h3⟩:=upsL_at ha; omega) (upsL h n).length (Nat.le_refl _) j hj).2
    rw [ej,Int.toNat_natCast] at this
    exact this
  simp -dsimp [hn,hna,hal]
  repeat (first|refine ⟨by omega,?_⟩|refine ⟨by simp [capMax];omega,?_⟩|refine ⟨⟨by omega,by omega⟩,?_⟩)
  simp [fetched,fetAll,q1,q2,q3,q4,hlast]
end Am
namespace Am
open Go Go.Proofs
open Cel (cells)
set_option maxRecDepth 100000
theorem bne2 (x y:Int):((x != y) = true ∧ (x == y) = false) ∨ ((x != y) = false ∧ (x == y) = true):=by
  by_cases h:x = y <;> simp [h]
def refZ (d:GDot):Bool:=d.rep == 0 && d.seq == 0
def actRef (a:GAct):Bool:=if (a.kind == 7) = true then knows a.knew a.ref else if (a.kind == 6) = true then refZ a.ref || knows a.knew a.ref else refZ a.ref
def actOk (a:GAct):Bool:=dotOk a.dot && knowOk a.knew && (nth a.knew a.dot.rep.toNat == a.dot.seq - 1) && spIn a.time 1 10000 && plain a.kind a.val a.obj a.key && actRef a
@[simp] def h201:Hts:={ merge:=fun _ => false,mergeF:=fun _ => false,dr:=fun id => if id = 1 then [{},{},{ cr:=true },{},{},{},{},{ cr:=true },{},{},{},{},{},{},{},{},{},{},{},{},{},{},{},{},{},{},{},{ cr:=true },{},{},{},{},{},{},{},{},{},{},{},{ cr:=true },{},{}] else [] }
set_option maxHeartbeats 2000000 in
theorem f201_ok (a:GAct) (h:a.Ok):FnR Tryz.prog 201 [.agg [.int .i64 a.dot.rep,.int .i64 a.dot.seq,.int .i64 a.time,.im a.knew.length (flat a.knew),.int .i64 a.kind,.str a.obj,.str a.key,.int .i64 a.val,.int .i64 a.ref.rep,.int .i64 a.ref.seq]] (.v (.bool (actOk a))):=by
  simp only [GAct.Ok] at h
  obtain ⟨o0,o1,o2⟩:=h
  refine FnW.of_AW TryzT_ok 0 (fn:=Tryz.f201) (by kernel_rfl) rfl (by kernel_rfl) rfl rfl rfl ?_; refine AW_of h201 TryzT_ok (by kernel_rfl) ?_
  simp -dsimp
  refine ACallK_of (f129_ok _) ?_
  cases g1:dotOk a.dot
  · simp -dsimp
    simp [actOk,g1]
  simp -dsimp
  refine ACallK_of (f63_ok _ o0) ?_
  cases g2:knowOk a.knew
  · simp -dsimp
    simp [actOk,g2]
  obtain ⟨r1,r2,r3⟩:=dot_range g2 g1
  have hs:1 ≤ a.dot.seq ∧ a.dot.seq ≤ 1000:=by simp [dotOk,spIn] at g1; omega
  have w:IntKind.i64.wrap (a.dot.seq - 1) = a.dot.seq - 1:=wrap64 (by omega) (by omega)
  rcases bne2 (nth a.knew a.dot.rep.toNat) (a.dot.seq - 1) with ⟨e1,e2⟩ | ⟨e1,e2⟩
  · simp -dsimp [r1,ne_of_lt r1,w,e1]
    repeat (first | refine ⟨by omega,?_⟩ | refine ⟨⟨by omega,by omega⟩,?_⟩)
    simp [actOk,e2]
  simp -dsimp [r1,ne_of_lt r1,w,e1]
  repeat (first | refine ⟨by omega,?_⟩ | refine ⟨⟨by omega,by omega⟩,?_⟩)
  refine ACallK_of (f86_ok _ _ _) ?_
  cases g4:spIn a.time 1 10000
  · simp -dsimp
    simp [actOk,g4]
  simp -dsimp
  refine ACallK_of (f223_ok _ _ _ _ (by omega) (by omega)) ?_
  cases g5:plain a.kind a.val a.obj a.key
  · simp -dsimp
    simp [actOk,g5]
  rcases bne2 a.kind 7 with ⟨c1,c2⟩ | ⟨c1,c2⟩
  · rcases bne2 a.kind 6 with ⟨d1,d2⟩ | ⟨d1,d2⟩
    · simp -dsimp [c1,c2,d1,d2]
      simp [actOk,actRef,g1,g2,e2,g4,g5,c2,d2,refZ]
    · rcases bne2 a.ref.rep 0 with ⟨p1,p2⟩ | ⟨p1,p2⟩ <;> rcases bne2 a.ref.seq 0 with ⟨q1,q2⟩ | ⟨q1,q2⟩
      all_goals (
        simp -dsimp [c1,c2,d1,d2,p1,p2,q1,q2]
        first
        | (simp [actOk,actRef,g1,g2,e2,g4,g5,c2,d2,refZ,p2,q2]; done)
        | (refine ACallK_of (f67_ok _ _ o0) ?_
           simp -dsimp
           simp [actOk,actRef,g1,g2,e2,g4,g5,c2,d2,refZ,p2,q2]))
  · simp -dsimp [c1,c2]
    refine ACallK_of (f67_ok _ _ o0) ?_
    simp -dsimp
    simp [actOk,actRef,g1,g2,e2,g4,g5,c2]
def zeroAct:GAct:=⟨⟨0,0⟩,0,[],0,⟨#[]⟩,⟨#[]⟩,0,⟨0,0⟩⟩
end Am
namespace Am
open Go Go.Proofs
open Cel (cells)
set_option maxRecDepth 100000
end Am
namespace Am
open Go Go.Proofs
open Cel (cells)
set_option maxRecDepth 100000
def keepK (m:Bool) (o k:ByteArray) (kn:List Int) (x:GLive):Bool:=!((x.map == m) && (decide (x.obj = o) && (decide (x.key = k) && knows kn x.dot)))
def clearK (m:Bool) (o k:ByteArray) (kn:List Int) (l:List GLive) (i:Nat):List GLive:=filK (keepK m o k kn) [] l i
theorem clearK_len (m:Bool) (o k:ByteArray) (kn:List Int) (l:List GLive) (i:Nat):(clearK m o k kn l i).length ≤ i:=by
  have:=filK_len (keepK m o k kn) [] l i
  simpa [clearK] using this
@[simp] def h226:Hts:={ merge:=fun _ => false,mergeF:=fun _ => false }
set_option maxHeartbeats 4000000 in
theorem f226_ok (u0 u1 u3:Value) (l:List GLive) (m:Bool) (o k:ByteArray) (kn:List Int) (ha:l.length ≤ 1000000) (hk:kn.length ≤ 1073741824):FnW Tryz.prog 226 [.ptr [.tk u0,.tk u1,.ow 98 6 l.length (flat l),.tk u3],.v (.bool m),.v (.str o),.v (.str k),.v (.im kn.length (flat kn))] (.tup []) [.ptr [.tk u0,.tk u1,.ow 98 6 (clearK m o k kn l l.length).length (flat (clearK m o k kn l l.length)),.tk u3],.any,.any,.any,.any]:=by
  refine FnW.of_AW TryzT_ok 1 (fn:=Tryz.f226) (by kernel_rfl) rfl (by kernel_rfl) rfl rfl rfl ?_; refine AW_of h226 TryzT_ok (by kernel_rfl) ?_
  simp -dsimp
  refine AWh_loop (fun i:Nat => i ≤ l.length) (fun i => mkE [(0,.box 640000 0),(1,.c (.bool m)),(2,.c (.str o)),(3,.c (.str k)),(4,.c (.im kn.length (flat kn))),(10,.arr 900001),(11,.c (.int .i64 i))] [(900001,.arr 0 98 6 (clearK m o k kn l i).length (flat (clearK m o k kn l i))),(640000,.box [.c (.tk u0),.c (.tk u1),.arr 640003,.c (.tk u3)]),(640003,.arr 0 98 6 l.length (flat l))]) (fun i => l.length - i) 0 (Wk_to [0,1,2,3,4,10,11] [(900001,832),(640000,640000),(640003,640003)] rfl rfl (by simp [clearK,filK])) (by simp) ?_
  rintro i hi
  have hcl:=clearK_len m o k kn l i
  refine AW_of h226 TryzT_ok (by kernel_rfl) ?_
  rcases Nat.lt_or_ge i l.length with h1 | h1
  · by_cases e1:(nth l i).map = m
    case neg =>
      have b1:((nth l i).map != m) = true:=by simp [e1]
      have b2:((nth l i).map ^^ m) = true:=by revert e1; cases (nth l i).map <;> cases m <;> simp
      have b3:((nth l i).map == m) = false:=by simp [e1]
      have hn:(clearK m o k kn l (i + 1)) = (clearK m o k kn l i) ++ [nth l i]:=by simp [clearK,filK,keepK,e1]
      simp -dsimp [h1,ne_of_lt h1,b1,b2,b3]
      repeat (first|refine ⟨by omega,?_⟩|refine ⟨by simp [capMax];omega,?_⟩|refine ⟨⟨by omega,by omega⟩,?_⟩)
      exact Back_of (i + 1) [0,1,2,3,4,10,11] [(900001,3584),(640000,640000),(640003,640003)] rfl rfl (by simp [hn]; rw [wrap64 (by omega) (by omega)]) (by omega) (by omega)
    have b1:((nth l i).map != m) = false:=by simp [e1]
    have b2:((nth l i).map ^^ m) = false:=by rw [e1]; cases m <;> rfl
    have b3:((nth l i).map == m) = true:=by simp [e1]
    by_cases e2:(nth l i).obj = o
    case neg =>
      have hn:(clearK m o k kn l (i + 1)) = (clearK m o k kn l i) ++ [nth l i]:=by simp [clearK,filK,keepK,e2]
      simp -dsimp [h1,ne_of_lt h1,b1,b2,b3,e2]
      repeat (first|refine ⟨by omega,?_⟩|refine ⟨by simp [capMax];omega,?_⟩|refine ⟨⟨by omega,by omega⟩,?_⟩)
      exact Back_of (i + 1) [0,1,2,3,4,10,11] [(900001,3584),(640000,640000),(640003,640003)] rfl rfl (by simp [hn]; rw [wrap64 (by omega) (by omega)]) (by omega) (by omega)
    by_cases e3:(nth l i).key = k
    case neg =>
      have hn:(clearK m o k kn l (i + 1)) = (clearK m o k kn l i) ++ [nth l i]:=by simp [clearK,filK,keepK,e3]
      simp -dsimp [h1,ne_of_lt h1,b1,b2,b3,eq_true e2,e3]
      repeat (first|refine ⟨by omega,?_⟩|refine ⟨by simp [capMax];omega,?_⟩|refine ⟨⟨by omega,by omega⟩,?_⟩)
      exact Back_of (i + 1) [0,1,2,3,4,10,11] [(900001,3584),(640000,640000),(640003,640003)] rfl rfl (by simp [hn]; rw [wrap64 (by omega) (by omega)]) (by omega) (by omega)
    simp -dsimp [h1,ne_of_lt h1,b1,b2,b3,eq_true e2,eq_true e3]
    repeat (first|refine ⟨by omega,?_⟩|refine ⟨by simp [capMax];omega,?_⟩|refine ⟨⟨by omega,by omega⟩,?_⟩)
    refine ACallK_of (f67_ok _ _ hk) ?_
    cases g:knows kn (nth l i).dot
    · skip
      have hn:(clearK m o k kn l (i + 1)) = (clearK m o k kn l i) ++ [nth l i]:=by simp [clearK,filK,keepK,g]
      simp -dsimp [h1,ne_of_lt h1,b1,b2,b3]
      repeat (first|refine ⟨by omega,?_⟩|refine ⟨by simp [capMax];omega,?_⟩|refine ⟨⟨by omega,by omega⟩,?_⟩)
      exact Back_of (i + 1) [0,1,2,3,4,10,11] [(900001,3584),(640000,640000),(640003,640003)] rfl rfl (by simp [hn]; rw [wrap64 (by omega) (by omega)]) (by omega) (by omega)
    · skip
      have hn:(clearK m o k kn l (i + 1)) = (clearK m o k kn l i):=by simp [clearK,filK,keepK,e1,e2,e3,g]
      simp -dsimp [h1,ne_of_lt h1,b1,b2,b3]
      repeat (first|refine ⟨by omega,?_⟩|refine ⟨by simp [capMax];omega,?_⟩|refine ⟨⟨by omega,by omega⟩,?_⟩)
      exact Back_of (i + 1) [0,1,2,3,4,10,11] [(900001,900001),(640000,640000),(640003,640003)] rfl rfl (by simp [hn]; rw [wrap64 (by omega) (by omega)]) (by omega) (by omega)
  · obtain rfl:i = l.length:=by omega
    simp -dsimp
end Am
namespace Am
open Go Go.Proofs
open Cel (cells)
set_option maxRecDepth 100000
def refAtI (s:GState) (a:GAct):Nat:=(cellAt s.cs a.ref).toNat
def actRefOk (s:GState) (a:GAct):Bool:=if a.kind = 7 ∨ (a.kind = 6 ∧ ¬ a.ref = zeroDot) then decide (0 ≤ cellAt s.cs a.ref) && (decide ((nth s.cs (refAtI s a)).obj = a.obj) && (a.kind == 7 || decide ((nth s.cs (refAtI s a)).time < a.time))) else true
@[simp] def h207:Hts:={ merge:=fun _ => false,mergeF:=fun _ => false,dr:=fun id => if id = 4 then [{},{},{},{},{},{},{},{},{},{},{},{},{},{},{},{},{},{},{},{},{},{},{},{},{},{},{},{},{},{}] else [] }
set_option maxHeartbeats 4000000 in
theorem f207_ok (s:GState) (a:GAct) (hs:s.cs.length ≤ 1073741824):FnR Tryz.prog 207 [.agg [.im s.know.length (flat s.know),.im s.tallies.length (flat s.tallies),.im s.lives.length (flat s.lives),.im s.cs.length (flat s.cs)],.agg [.int .i64 a.dot.rep,.int .i64 a.dot.seq,.int .i64 a.time,.im a.knew.length (flat a.knew),.int .i64 a.kind,.str a.obj,.str a.key,.int .i64 a.val,.int .i64 a.ref.rep,.int .i64 a.ref.seq]] (.v (.bool (actRefOk s a))):=by
  obtain ⟨dot,time,knew,kind,obj,key,val,ref⟩:=a
  refine FnW.of_AW TryzT_ok 0 (fn:=Tryz.f207) (by kernel_rfl) rfl (by kernel_rfl) rfl rfl rfl ?_; refine AW_of h207 TryzT_ok (by kernel_rfl) ?_
  have goon:(kind = 7 ∨ (kind = 6 ∧ ¬ ref = zeroDot)) → actRefOk s ⟨dot,time,knew,kind,obj,key,val,ref⟩ = (decide (0 ≤ cellAt s.cs ref) && (decide ((nth s.cs (cellAt s.cs ref).toNat).obj = obj) && (kind == 7 || decide ((nth s.cs (cellAt s.cs ref).toNat).time < time)))):=fun h => by simp only [actRefOk,refAtI]; rw [if_pos h]; rfl
  by_cases k7:kind = 7
  · subst k7
    have hg:=goon (.inl rfl)
    simp -dsimp
    refine ACallK_of (f68_ok s ref hs) ?_
    rcases cellAt_cases s.cs ref with c1 | ⟨j,hj,c1⟩
    · rw [c1] at hg ⊢
      simp -dsimp
      simp [hg]
    · rw [c1] at hg ⊢
      have jn:¬ (j:Int) < 0:=by omega
      by_cases o1:(nth s.cs j).obj = obj
      · simp -dsimp [hj,ne_of_lt hj,jn,eq_true o1]
        repeat (first|refine ⟨by omega,?_⟩|refine ⟨by simp [capMax];omega,?_⟩|refine ⟨⟨by omega,by omega⟩,?_⟩)
        simp [hg,o1]
      · simp -dsimp [hj,ne_of_lt hj,jn,o1]
        repeat (first|refine ⟨by omega,?_⟩|refine ⟨by simp [capMax];omega,?_⟩|refine ⟨⟨by omega,by omega⟩,?_⟩)
        simp [hg,o1]
  have b7:(kind != 7) = true:=by simp [k7]
  have b7':(kind == 7) = false:=by simp [k7]
  by_cases k6:kind = 6
  case neg =>
    have b6:(kind != 6) = true:=by simp [k6]
    simp -dsimp [b7,b6]
    simp [actRefOk,k6,k7]
  subst k6
  by_cases rz:ref = zeroDot
  · have z1:ref.rep = 0:=by rw [rz]; rfl
    have z2:ref.seq = 0:=by rw [rz]; rfl
    simp -dsimp [z1,z2]
    simp [actRefOk,rz]
  have rz':(ref.rep == 0 && ref.seq == 0) = false:=by
    rw [Bool.eq_false_iff]; intro h; exact rz (by simpa [GDot.ext_iff,zeroDot] using h)
  have hg:=goon (.inr ⟨rfl,rz⟩)
  simp -dsimp [rz']
  refine ACallK_of (f68_ok s ref hs) ?_
  rcases cellAt_cases s.cs ref with c1 | ⟨j,hj,c1⟩
  · rw [c1] at hg ⊢
    simp -dsimp
    simp [hg]
  · rw [c1] at hg ⊢
    have jn:¬ (j:Int) < 0:=by omega
    by_cases o1:(nth s.cs j).obj = obj
    · simp -dsimp [hj,ne_of_lt hj,jn,eq_true o1]
      repeat (first|refine ⟨by omega,?_⟩|refine ⟨by simp [capMax];omega,?_⟩|refine ⟨⟨by omega,by omega⟩,?_⟩)
      simp [hg,o1]
    · simp -dsimp [hj,ne_of_lt hj,jn,o1]
      repeat (first|refine ⟨by omega,?_⟩|refine ⟨by simp [capMax];omega,?_⟩|refine ⟨⟨by omega,by omega⟩,?_⟩)
      simp [hg,o1]
end Am
namespace Am
open Go Go.Proofs
open Cel (cells)
set_option maxRecDepth 100000
def tooMany (s:GState):Bool:=decide (120 < s.tallies.length) || (decide (120 < s.lives.length) || decide (120 < s.cs.length))
end Am
