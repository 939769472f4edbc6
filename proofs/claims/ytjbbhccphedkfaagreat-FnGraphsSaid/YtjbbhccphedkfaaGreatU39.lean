/- Graphs,plainly: a commit more; what is fetched. No condition. -/
import Derived.Test.YtjbbhccphedkfaaGreatD
import Derived.Test.YtjbbhccphedkfaaGreatE96
import Derived.Test.YtjbbhccphedkfaaGreatU9
import Derived.Test.YtjbbhccphedkfaaGreatE91
import Derived.Test.YtjbbhccphedkfaaGreatT
import Derived.Test.YtjbbhccphedkfaaGreatE2
import Derived.Test.YtjbbhccphedkfaaGreatAm32
import Derived.Test.YtjbbhccphedkfaaGreatAm29
import Derived.Test.YtjbbhccphedkfaaGreatAm31
set_option linter.unusedSimpArgs false
set_option linter.unusedVariables false
set_option linter.unnecessarySimpa false
set_option linter.unusedSectionVars false
namespace Am
open Go
structure ComOk (cs:List GCommit) (k:Nat) (y:GCommit):Prop where
  id:dotOk y.id = true
  at':atC cs y.id = k
  st:stateOk y.state = true
  l2:y.ups.length ≤ 2
  up:∀ j:Nat,j < y.ups.length → 0 ≤ nth y.ups j ∧ nth y.ups j < k ∧ (j = 0 ∨ nth y.ups (j - 1) < nth y.ups j) ∧ behind (nth cs (nth y.ups j).toNat).state y.state = true
theorem comOk_iff {g:GGraph} {k:Nat}:comOk g k = true ↔ ComOk g.commits k (nth g.commits k):=by
  simp only [comOk,Bool.and_eq_true,beq_iff_eq,decide_eq_true_eq,allB_iff,upAt,spIn,Bool.or_eq_true]
  constructor
  · rintro ⟨⟨⟨⟨a1,a2⟩,a3⟩,a4⟩,a5⟩
    refine ⟨a1,a2,a3,a4,fun j hj => ?_⟩
    obtain ⟨⟨⟨b1,b2⟩,b3⟩,b4⟩:=a5 j hj
    exact ⟨b1,by omega,b3,b4⟩
  · rintro ⟨a1,a2,a3,a4,a5⟩
    refine ⟨⟨⟨⟨a1,a2⟩,a3⟩,a4⟩,fun j hj => ?_⟩
    obtain ⟨b1,b2,b3,b4⟩:=a5 j hj
    exact ⟨⟨⟨b1,by omega⟩,b3⟩,b4⟩
structure GraOk (g:GGraph):Prop where
  l:g.commits.length ≤ 80
  h0:-1 ≤ g.head
  h1:g.head < g.commits.length
  c:∀ k:Nat,k < g.commits.length → ComOk g.commits k (nth g.commits k)
theorem graphOk_iff {g:GGraph}:graphOk g = true ↔ GraOk g:=by
  simp only [graphOk,spIn,Bool.and_eq_true,decide_eq_true_eq,allB_iff,comOk_iff]
  constructor
  · rintro ⟨⟨a1,a2,a3⟩,a4⟩; exact ⟨a1,a2,by omega,a4⟩
  · rintro ⟨a1,a2,a3,a4⟩; exact ⟨⟨a1,a2,by omega⟩,a4⟩
theorem nth_more_l {cs:List GCommit} {y:GCommit} {i:Nat} (h:i < cs.length):nth (cs ++ [y]) i = nth cs i:=nth_append_left h
theorem nth_more_at {cs:List GCommit} {y:GCommit}:nth (cs ++ [y]) cs.length = y:=by
  rw [nth_append_right (Nat.le_refl _)]; simp [nth]
theorem graph_more {cs:List GCommit} {hd hd':Int} {y:GCommit} (h:GraOk ⟨cs,hd⟩) (hl:cs.length < 80) (h0:-1 ≤ hd') (h1:hd' ≤ cs.length) (hi:dotOk y.id = true) (hn:atC cs y.id < 0) (hs:stateOk y.state = true) (h2:y.ups.length ≤ 2)
    (hu:∀ j:Nat,j < y.ups.length → 0 ≤ nth y.ups j ∧ nth y.ups j < cs.length ∧ (j = 0 ∨ nth y.ups (j - 1) < nth y.ups j) ∧ behind (nth cs (nth y.ups j).toNat).state y.state = true):GraOk ⟨cs ++ [y],hd'⟩:=by
  refine ⟨by simp only [List.length_append,List.length_singleton]; omega,h0,by simp only [List.length_append,List.length_singleton]; omega,fun k hk => ?_⟩
  simp only [List.length_append,List.length_singleton] at hk
  show ComOk (cs ++ [y]) k (nth (cs ++ [y]) k)
  rcases Nat.lt_or_ge k cs.length with hk1 | hk1
  · rw [nth_more_l hk1]
    have hC:ComOk cs k (nth cs k):=h.c k hk1
    obtain ⟨a1,a2,a3,a4,a5⟩:=hC
    refine ⟨a1,by rw [atC_old y (by omega)]; exact a2,a3,a4,fun j hj => ?_⟩
    obtain ⟨b1,b2,b3,b4⟩:=a5 j hj
    refine ⟨b1,b2,b3,?_⟩
    rw [nth_more_l (show (nth (nth cs k).ups j).toNat < cs.length by omega)]
    exact b4
  · obtain rfl:k = cs.length:=by omega
    rw [nth_more_at]
    refine ⟨hi,atC_new hn,hs,h2,fun j hj => ?_⟩
    obtain ⟨b1,b2,b3,b4⟩:=hu j hj
    refine ⟨b1,b2,b3,?_⟩
    rw [nth_more_l (by omega)]
    exact b4
def Agree (g h:List GCommit):Prop:=∀ x,x ∈ g → ∀ y,y ∈ h → x.id = y.id → x.state = y.state
structure Fet (g h:GGraph) (cs:List GCommit):Prop where
  ok:GraOk ⟨cs,g.head⟩
  old:∀ i:Nat,i < g.commits.length → nth cs i = nth g.commits i
  len:g.commits.length ≤ cs.length
  new:∀ x,x ∈ cs → x ∈ g.commits ∨ ∃ y,y ∈ h.commits ∧ x.id = y.id ∧ x.state = y.state
theorem gra_one {g:GGraph} (h:GraOk g) {i j:Nat} (hi:i < g.commits.length) (hj:j < g.commits.length) (e:(nth g.commits i).id = (nth g.commits j).id):i = j:=by
  have h1:=(h.c i hi).at'
  have h2:=(h.c j hj).at'
  rw [e] at h1
  omega
theorem gra_mem {g:GGraph} (h:GraOk g) {x y:GCommit} (hx:x ∈ g.commits) (hy:y ∈ g.commits) (e:x.id = y.id):x = y:=by
  obtain ⟨i,hi,rfl⟩:=mem_nth hx
  obtain ⟨j,hj,rfl⟩:=mem_nth hy
  rw [gra_one h hi hj e]
theorem fet_state {g h:GGraph} {cs:List GCommit} (hh:GraOk h) (ha:Agree g.commits h.commits) (hf:Fet g h cs) {x y:GCommit} (hx:x ∈ cs) (hy:y ∈ h.commits) (e:x.id = y.id):x.state = y.state:=by
  rcases hf.new x hx with h1 | ⟨z,h1,h2,h3⟩
  · exact ha x h1 y hy e
  · rw [h3,gra_mem hh h1 hy (h2.symm.trans e)]
theorem sort_one (a:Int):sortI [a] = [a]:=by simp [sortI]
theorem sort_two {a b:Int}:sortI [a,b] = if a ≤ b then [a,b] else [b,a]:=by
  by_cases h2:a ≤ b
  · simp [sortI,List.mergeSort,List.MergeSort.Internal.splitInTwo,List.merge,h2]
  · simp [sortI,List.mergeSort,List.MergeSort.Internal.splitInTwo,List.merge,h2]
theorem fet_ups {us vs:List Int} (hv:vs.length = us.length) (hl:us.length ≤ 2) (hd:∀ i j:Nat,i < us.length → j < us.length → i ≠ j → nth vs i ≠ nth vs j) {P:Int → Prop} (hP:∀ j:Nat,j < us.length → P (nth vs j)) :
    (sortI vs).length ≤ 2 ∧ ∀ j:Nat,j < (sortI vs).length → P (nth (sortI vs) j) ∧ (j = 0 ∨ nth (sortI vs) (j - 1) < nth (sortI vs) j):=by
  match vs,hv with
  | [],_ => simp [sortI]
  | [a],hv =>
    have h0:=hP 0 (by simp only [List.length_singleton] at hv; omega)
    rw [sort_one]
    refine ⟨by simp,fun j hj => ?_⟩
    simp only [List.length_singleton] at hj
    obtain rfl:j = 0:=by omega
    exact ⟨h0,.inl rfl⟩
  | [a,b],hv =>
    simp only [List.length_cons,List.length_nil] at hv
    have h0:P a:=hP 0 (by omega)
    have h1:P b:=hP 1 (by omega)
    have hne:a ≠ b:=hd 0 1 (by omega) (by omega) (by omega)
    rw [sort_two]
    split
    · refine ⟨by simp,fun j hj => ?_⟩
      simp only [List.length_cons,List.length_nil] at hj
      have:j = 0 ∨ j = 1:=by omega
      rcases this with rfl | rfl
      · exact ⟨h0,.inl rfl⟩
      · exact ⟨h1,.inr (by show a < b; omega)⟩
    · refine ⟨by simp,fun j hj => ?_⟩
      simp only [List.length_cons,List.length_nil] at hj
      have:j = 0 ∨ j = 1:=by omega
      rcases this with rfl | rfl
      · exact ⟨h1,.inl rfl⟩
      · exact ⟨h0,.inr (by show b < a; omega)⟩
  | a :: b :: c :: r,hv => simp only [List.length_cons] at hv; omega
theorem upK_nth (h:GGraph) (cs:List GCommit) (us:List Int):∀ (n j:Nat),j < n → nth (upK h cs us n) j = atC cs (nth h.commits (nth us j).toNat).id
  | n + 1,j,hj => by
    rw [upK]
    rcases Nat.lt_or_ge j n with h1 | h1
    · rw [nth_append_left (by simp; omega)]
      exact upK_nth h cs us n j h1
    · obtain rfl:j = n:=by omega
      rw [nth_append_right (by simp)]
      simp [nth]
theorem fetK_fet {g h:GGraph} (hg:GraOk g) (hh:GraOk h) (ha:Agree g.commits h.commits) (hl:g.commits.length + h.commits.length ≤ 80) {k:Nat} (hk:k < h.commits.length):∀ i:Nat,i ≤ (upsL h k).length →
    Fet g h (fetK g h (upsL h k) i) ∧ ∀ j:Nat,j < i → 0 ≤ atC (fetK g h (upsL h k) i) (nth h.commits (nth (upsL h k) j).toNat).id
  | 0,_ => ⟨⟨hg,fun _ _ => rfl,Nat.le_refl _,fun x hx => .inl hx⟩,fun j hj => by omega⟩
  | i + 1,hi => by
    obtain ⟨h1,h2⟩:=fetK_fet hg hh ha hl hk i (by omega)
    have hu:=graphOk_ups (graphOk_iff.2 hh)
    have hll:=fetK_len g h (upsL h k) i
    have hL:=upsL_len h k
    obtain ⟨x,x1,x2,x3⟩:=upsL_at (show i < (upsL h k).length by omega)
    have hxl:x < h.commits.length:=by omega
    have keep:∀ d,0 ≤ atC (fetK g h (upsL h k) i) d → 0 ≤ atC (fetK g h (upsL h k) (i + 1)) d:=fun d hd => by
      rw [fetK,fetC_old _ _ _ hd]; exact hd
    have hat:∀ j:Nat,j < i + 1 → 0 ≤ atC (fetK g h (upsL h k) (i + 1)) (nth h.commits (nth (upsL h k) j).toNat).id:=fun j hj => by
      rcases Nat.lt_or_ge j i with hj1 | hj1
      · exact keep _ (h2 j hj1)
      · obtain rfl:j = i:=by omega
        exact fetC_at h _ _
    refine ⟨?_,hat⟩
    rw [fetK,x3,Int.toNat_natCast]
    have key:∀ j:Nat,j < (upsOf h x).length → 0 ≤ atC (fetK g h (upsL h k) i) (nth h.commits (nth (upsOf h x) j).toNat).id:=fun j hj => by
      have hb:=hu x hxl j hj
      have hm:=marks_closed hu hk x1 x2 hj
      obtain ⟨y,hy1,hy2⟩:=upsL_before (show i < (upsL h k).length by omega) x3 (u:=(nth (upsOf h x) j).toNat) (by omega) hm
      have:=h2 y hy1
      rw [hy2,Int.toNat_natCast] at this
      exact this
    generalize fetK g h (upsL h k) i = cs at *
    unfold fetC
    split
    · exact h1
    rename_i hn
    have hX:=hh.c x hxl
    have e:nth h.commits x = nth h.commits x:=rfl
    have hup:(fetY h cs x).ups.length ≤ 2 ∧ ∀ j:Nat,j < (fetY h cs x).ups.length → (0 ≤ nth (fetY h cs x).ups j ∧ nth (fetY h cs x).ups j < cs.length ∧ behind (nth cs (nth (fetY h cs x).ups j).toNat).state (nth h.commits x).state = true) ∧ (j = 0 ∨ nth (fetY h cs x).ups (j - 1) < nth (fetY h cs x).ups j):=by
      refine fet_ups (us:=upsOf h x) (vs:=upK h cs (upsOf h x) (upsOf h x).length) (P:=fun p => 0 ≤ p ∧ p < cs.length ∧ behind (nth cs p.toNat).state (nth h.commits x).state = true) (by simp) hX.l2 (fun a b ha' hb' hab => ?_) (fun j hj => ?_)
      · rw [upK_nth _ _ _ _ _ ha',upK_nth _ _ _ _ _ hb']
        intro ee
        have i1:=atC_id (key a ha')
        have i2:=atC_id (key b hb')
        rw [ee,i2] at i1
        have ua:=hu x hxl a ha'
        have ub:=hu x hxl b hb'
        have:=gra_one hh (by omega) (by omega) i1
        have asc:=hX.up
        have hq:(upsOf h x).length ≤ 2:=hX.l2
        have h01:a = 0 ∧ b = 1 ∨ a = 1 ∧ b = 0:=by omega
        rcases h01 with ⟨rfl,rfl⟩ | ⟨rfl,rfl⟩
        · rcases (asc 1 hb').2.2.1 with w | w
          · omega
          · have w2:nth (upsOf h x) 0 < nth (upsOf h x) 1:=w
            omega
        · rcases (asc 1 ha').2.2.1 with w | w
          · omega
          · have w2:nth (upsOf h x) 0 < nth (upsOf h x) 1:=w
            omega
      · rw [upK_nth _ _ _ _ _ hj]
        have q:=key j hj
        have q2:=atC_lt cs (nth h.commits (nth (upsOf h x) j).toNat).id
        refine ⟨q,q2,?_⟩
        have q3:=atC_id q
        have ub:=hu x hxl j hj
        rw [fet_state hh ha h1 (nth_mem (by omega)) (nth_mem (show (nth (upsOf h x) j).toNat < h.commits.length by omega)) q3]
        exact (hX.up j hj).2.2.2
    refine ⟨graph_more h1.ok (by omega) h1.ok.h0 (by have:=h1.ok.h1; simp only at this; omega) hX.id (by show atC cs (nth h.commits x).id < 0; omega) hX.st hup.1 (fun j hj => ?_),fun j hj => ?_,?_,fun z hz => ?_⟩
    · obtain ⟨⟨a1,a2,a3⟩,a4⟩:=hup.2 j hj
      exact ⟨a1,a2,a4,a3⟩
    · rw [nth_more_l (by have:=h1.len; omega)]; exact h1.old j hj
    · have:=h1.len
      simp only [List.length_append,List.length_singleton]
      omega
    · rcases List.mem_append.1 hz with hz | hz
      · exact h1.new z hz
      · rw [List.mem_singleton.1 hz]
        exact .inr ⟨_,nth_mem hxl,rfl,rfl⟩
theorem fetched_law {g h:GGraph} (hg:GraOk g) (hh:GraOk h) (ha:Agree g.commits h.commits) (hl:g.commits.length + h.commits.length ≤ 80) {k:Int} (h0:0 ≤ k) (hk:k < h.commits.length) :
    ∃ (cs:List GCommit) (p:Nat),fetched g h k = (⟨cs,g.head⟩,(p:Int)) ∧ Fet g h cs ∧ p < cs.length ∧ (nth cs p).id = (nth h.commits k.toNat).id ∧ (nth cs p).state = (nth h.commits k.toNat).state:=by
  have hkN:k.toNat < h.commits.length:=by omega
  obtain ⟨h1,h2⟩:=fetK_fet hg hh ha hl hkN (upsL h k.toNat).length (Nat.le_refl _)
  have hu:=graphOk_ups (graphOk_iff.2 hh)
  have hs:hasX (upsL h k.toNat) (k.toNat:Int) = true:=by
    rw [upsL_mem hu hkN]
    simp only [hkN,decide_true,Bool.true_and]
    unfold marksS
    have:=runM_mono h (startM h.commits.length k.toNat) h.commits.length 0 (y:=k.toNat) (by
      show nth (startM h.commits.length k.toNat) k.toNat = true
      unfold startM
      rw [nth_set,if_pos ⟨rfl,by simpa using hkN⟩]) h.commits.length
    rwa [Nat.zero_add] at this
  have hm:(k.toNat:Int) ∈ upsL h k.toNat:=by simpa [hasX] using hs
  obtain ⟨j,hj,e⟩:=mem_nth hm
  have h3:=h2 j hj
  rw [e,Int.toNat_natCast] at h3
  have h4:=atC_lt (fetK g h (upsL h k.toNat) (upsL h k.toNat).length) (nth h.commits k.toNat).id
  have h5:=atC_id h3
  refine ⟨_,(atC (fetK g h (upsL h k.toNat) (upsL h k.toNat).length) (nth h.commits k.toNat).id).toNat,?_,h1,by omega,h5,fet_state hh ha h1 (nth_mem (by omega)) (nth_mem hkN) h5⟩
  have e1:graphOk (fetAll g h k.toNat) = true:=graphOk_iff.2 h1.ok
  have e2:spIn k 0 (h.commits.length - 1) = true:=by simp only [spIn,Bool.and_eq_true,decide_eq_true_eq]; omega
  rw [fetched,if_pos (by simp [graphOk_iff.2 hg,graphOk_iff.2 hh,e1,e2])]
  exact Prod.ext rfl (by show atC (fetK g h _ _) _ = _; omega)
end Am
namespace Am
open Go
theorem knowIn_tran {a b c:List Int} (h:knowIn a b = true) (g:knowIn b c = true):knowIn a c = true:=by
  obtain ⟨a1,b1,h1⟩:=knowIn_at h
  obtain ⟨_,c1,g1⟩:=knowIn_at g
  exact knowIn_of a1 c1 fun j hj => Int.le_trans (h1 j hj) (g1 j hj)
structure Wo (out:List GAct):Prop where
  n:(out.map (·.dot)).Nodup
  l:out.length ≤ 60
def InA (out:List GAct) (s:GState):Prop:=∃ D,Canon D s ∧ ∀ a,a ∈ D → a ∈ out
def below (s t:GState):Prop:=knowIn s.know t.know = true
theorem wo_len {out D:List GAct} {s:GState} (h:Wo out) (hc:Canon D s) (hs:∀ a,a ∈ D → a ∈ out):D.length ≤ 60:=by
  have:=nodup_len (m:=out.map (·.dot)) hc.nod (fun d hd => by
    obtain ⟨x,hx,rfl⟩:=List.mem_map.1 hd
    exact List.mem_map.2 ⟨x,hs x hx,rfl⟩)
  have h2:=h.l
  simp only [List.length_map] at this
  omega
theorem wo_fits {out D E:List GAct} (h:Wo out) (hd:∀ a,a ∈ D → a ∈ out) (he:∀ a,a ∈ E → a ∈ out):Fits D E:=fun a b ha hb e => nodup_inj h.n (hd a ha) (he b hb) e
theorem in_sok {out:List GAct} {s:GState} (h:InA out s):SOK s:=by
  obtain ⟨D,h1,_⟩:=h
  exact h1.sok
theorem in_refl {out:List GAct} {s:GState} (h:InA out s):below s s:=by
  obtain ⟨D,h1,_⟩:=h
  exact know_sub h1 h1 fun _ h => h
theorem below_trans {s t u:GState} (h:below s t) (g:below t u):below s u:=knowIn_tran h g
theorem in_more {out out':List GAct} {s:GState} (h:InA out s) (hs:∀ a,a ∈ out → a ∈ out'):InA out' s:=by
  obtain ⟨D,h1,h2⟩:=h
  exact ⟨D,h1,fun a ha => hs a (h2 a ha)⟩
theorem in_new (out:List GAct):InA out stateNew:=⟨[],canon_new,by simp⟩
theorem new_below {out:List GAct} {s:GState} (h:InA out s):below stateNew s:=by
  obtain ⟨D,h1,_⟩:=h
  exact know_sub canon_new h1 (by simp)
theorem in_sub {out:List GAct} {s t:GState} (hW:Wo out) (hs:InA out s) (ht:InA out t) (h:below s t):mergeState s t = t ∧ mergeState t s = t ∧ behind s t = true:=by
  obtain ⟨D,d1,d2⟩:=hs
  obtain ⟨E,e1,e2⟩:=ht
  have hsub:=know_same d1 e1 (wo_fits hW d2 e2) h
  have l1:=wo_len hW d1 d2
  have l2:=wo_len hW e1 e2
  exact ⟨merge_sub d1 e1 hsub (by omega),merge_sup e1 d1 hsub (by omega),behind_sub d1 e1 hsub (by omega)⟩
theorem in_merge {out:List GAct} {s t:GState} (hW:Wo out) (hs:InA out s) (ht:InA out t):InA out (mergeState s t) ∧ below s (mergeState s t) ∧ below t (mergeState s t) ∧ ∀ u,InA out u → below s u → below t u → below (mergeState s t) u:=by
  obtain ⟨D,d1,d2⟩:=hs
  obtain ⟨E,e1,e2⟩:=ht
  have l1:=wo_len hW d1 d2
  have l2:=wo_len hW e1 e2
  obtain ⟨M,m1,m2,m3,_⟩:=merge_all d1 e1 (wo_fits hW d2 e2) (by omega)
  refine ⟨⟨M,m3,fun a ha => ((m1 a).1 ha).elim (d2 a) (e2 a)⟩,know_sub d1 m3 fun a ha => (m1 a).2 (.inl ha),know_sub e1 m3 fun a ha => (m1 a).2 (.inr ha),fun u hu h1 h2 => ?_⟩
  obtain ⟨U,u1,u2⟩:=hu
  exact know_sub m3 u1 fun a ha => ((m1 a).1 ha).elim (know_same d1 u1 (wo_fits hW d2 u2) h1 a) (know_same e1 u1 (wo_fits hW e2 u2) h2 a)
theorem behind_below {out:List GAct} {s t:GState} (hW:Wo out) (hs:InA out s) (ht:InA out t) (h:behind s t = true):below s t:=by
  have h2:=(in_merge hW hs ht).2.1
  simp only [behind,Bool.and_eq_true,decide_eq_true_eq] at h
  rw [h.2.2] at h2
  exact h2
def AllIn (out:List GAct) (g:GGraph):Prop:=∀ c,c ∈ g.commits → InA out c.state
def stAt (g:GGraph) (k:Nat):GState:=(nth g.commits k).state
theorem setK_ind {R:Nat → Prop} {m:List Bool} {us:List Int} (hm:∀ x,nth m x = true → R x):∀ j:Nat,(∀ i:Nat,i < j → R (nth us i).toNat) → ∀ x,nth (setK m us j) x = true → R x
  | 0,_,x,h => hm x h
  | j + 1,hu,x,h => by
    rw [setK,nth_set] at h
    split at h
    · rename_i hc
      rw [hc.1]; exact hu j (by omega)
    · exact setK_ind hm j (fun i hi => hu i (by omega)) x h
theorem runM_ind {R:Nat → Prop} {g:GGraph} {m:List Bool} {n:Nat} (hn:n ≤ g.commits.length) (hm:∀ x,nth m x = true → R x) (hR:∀ i:Nat,i < g.commits.length → R i → ∀ j:Nat,j < (upsOf g i).length → R (nth (upsOf g i) j).toNat):∀ d:Nat,d ≤ n → ∀ x,nth (runM g m n d) x = true → R x
  | 0,_,x,h => hm x h
  | d + 1,hd,x,h => by
    have ih:=runM_ind hn hm hR d (by omega)
    rw [runM,stepU] at h
    split at h
    · rename_i hc
      exact setK_ind ih _ (fun i hi => hR _ (by omega) (ih _ hc) i hi) x h
    · exact ih x h
theorem marks_below {out:List GAct} {g:GGraph} (hW:Wo out) (hg:GraOk g) (ha:AllIn out g) {k:Nat} (hk:k < g.commits.length) {x:Nat} (h:nth (marksS g k) x = true):x < g.commits.length ∧ below (stAt g x) (stAt g k):=by
  refine runM_ind (R:=fun x => x < g.commits.length ∧ below (stAt g x) (stAt g k)) (Nat.le_refl _) (fun x hx => ?_) (fun i hi hr j hj => ?_) g.commits.length (Nat.le_refl _) x h
  · unfold startM at hx
    rw [nth_set] at hx
    split at hx
    · rename_i hc
      rw [hc.1]
      exact ⟨hk,in_refl (ha _ (nth_mem hk))⟩
    · rw [nth_false] at hx; cases hx
  · obtain ⟨u1,u2,u3,u4⟩:=(hg.c i hi).up j hj
    have hl:(nth (upsOf g i) j).toNat < g.commits.length:=by
      have:nth (upsOf g i) j < i:=u2
      omega
    exact ⟨hl,below_trans (behind_below hW (ha _ (nth_mem hl)) (ha _ (nth_mem hi)) u4) hr.2⟩
def seqK (cs:List GCommit) (r:Int):Nat → Int
  | 0 => 0
  | i + 1 => if (nth cs i).id.rep = r ∧ seqK cs r i < (nth cs i).id.seq then (nth cs i).id.seq else seqK cs r i
def seqOf (cs:List GCommit) (r:Int):Int:=seqK cs r cs.length
theorem seqK_ge (cs:List GCommit) (r:Int):∀ i:Nat,∀ j:Nat,j < i → (nth cs j).id.rep = r → (nth cs j).id.seq ≤ seqK cs r i
  | i + 1,j,hj,e => by
    rw [seqK]
    rcases Nat.lt_or_ge j i with h1 | h1
    · have:=seqK_ge cs r i j h1 e
      split
      · omega
      · exact this
    · obtain rfl:j = i:=by omega
      split
      · exact Int.le_refl _
      · rename_i hc
        simp only [e,true_and,Int.not_lt] at hc
        exact hc
theorem seqK_le (cs:List GCommit) (r:Int) {n:Int} (hn:0 ≤ n) (h:∀ c,c ∈ cs → c.id.seq ≤ n):∀ i:Nat,i ≤ cs.length → 0 ≤ seqK cs r i ∧ seqK cs r i ≤ n
  | 0,_ => ⟨Int.le_refl _,hn⟩
  | i + 1,hi => by
    have ih:=seqK_le cs r hn h i (by omega)
    have:=h _ (nth_mem (show i < cs.length by omega))
    rw [seqK]
    split
    · omega
    · exact ih
def newCom (g:GGraph) (r:Int) (ups:List Int) (s:GState):GCommit:=⟨⟨r,seqOf g.commits r + 1⟩,ups,s⟩
def newG (g:GGraph) (r:Int) (ups:List Int) (s:GState):GGraph:=⟨g.commits ++ [newCom g r ups s],(g.commits.length:Int)⟩
def commitTo (g:GGraph) (r:Int) (ups:List Int) (s:GState):GGraph × Bool:=if 1000 < seqOf g.commits r then (g,false) else if graphOk (newG g r ups s) = true then (newG g r ups s,true) else (g,false)
def joinM (g:GGraph) (r k:Int):GGraph × Bool :=
  if (graphOk g && spIn k 0 (g.commits.length - 1)) = false then (g,false)
  else if g.head < 0 ∨ nth (marksS g k.toNat) g.head.toNat = true then (⟨g.commits,k⟩,true)
  else if nth (marksS g g.head.toNat) k.toNat = true then (g,true)
  else commitTo g r (if k < g.head then [k,g.head] else [g.head,k]) (mergeState (stAt g g.head.toNat) (stAt g k.toNat))
theorem seq_fresh (g:GGraph) (r:Int):atC g.commits ⟨r,seqOf g.commits r + 1⟩ < 0:=by
  rcases atC_cases g.commits ⟨r,seqOf g.commits r + 1⟩ with ⟨i,h1,h2,_,_⟩ | ⟨_,h⟩
  · have:=seqK_ge g.commits r g.commits.length i h1 (by rw [h2])
    rw [h2] at this
    have e:(⟨r,seqOf g.commits r + 1⟩:GDot).seq = seqK g.commits r g.commits.length + 1:=rfl
    omega
  · omega
theorem newG_ok {g:GGraph} {r:Int} {ups:List Int} {s:GState} (hg:GraOk g) (hl:g.commits.length < 80) (h0:0 ≤ r) (h2:r ≤ 2) {n:Int} (hn0:0 ≤ n) (hn:n ≤ 999) (hq:∀ c,c ∈ g.commits → c.id.seq ≤ n) (hs:stateOk s = true) (hu2:ups.length ≤ 2)
    (hu:∀ j:Nat,j < ups.length → 0 ≤ nth ups j ∧ nth ups j < g.commits.length ∧ (j = 0 ∨ nth ups (j - 1) < nth ups j) ∧ behind (nth g.commits (nth ups j).toNat).state s = true):commitTo g r ups s = (newG g r ups s,true) ∧ GraOk (newG g r ups s):=by
  have hb:=seqK_le g.commits r hn0 hq g.commits.length (Nat.le_refl _)
  have e:seqOf g.commits r = seqK g.commits r g.commits.length:=rfl
  have hG:GraOk (newG g r ups s):=graph_more (y:=newCom g r ups s) (hd:=g.head) hg hl (by show -1 ≤ (g.commits.length:Int); omega) (Int.le_refl _) (by
    show dotOk ⟨r,seqOf g.commits r + 1⟩ = true
    simp only [dotOk,spIn,Bool.and_eq_true,decide_eq_true_eq]; omega) (seq_fresh g r) hs hu2 hu
  refine ⟨?_,hG⟩
  rw [commitTo,if_neg (by omega),if_pos (graphOk_iff.2 hG)]
structure Joi (g g':GGraph) (r:Int) (s:GState):Prop where
  ok:GraOk g'
  h0:0 ≤ g'.head
  st:stAt g' g'.head.toNat = s
  cm:g'.commits = g.commits ∨ ∃ ups,g' = newG g r ups s
theorem joined_law {out:List GAct} {g:GGraph} {r k:Int} (hW:Wo out) (hg:GraOk g) (ha:AllIn out g) (hl:g.commits.length < 80) (h0:0 ≤ r) (h2:r ≤ 2) {n:Int} (hn0:0 ≤ n) (hn:n ≤ 999) (hq:∀ c,c ∈ g.commits → c.id.seq ≤ n) (hk0:0 ≤ k) (hk:k < g.commits.length) :
    (joinM g r k).2 = true ∧ Joi g (joinM g r k).1 r (if g.head < 0 then stAt g k.toNat else mergeState (stAt g g.head.toNat) (stAt g k.toNat)) ∧ (g.head < 0 → (joinM g r k).1.head = k):=by
  have e1:(graphOk g && spIn k 0 (g.commits.length - 1)) = true:=by
    rw [graphOk_iff.2 hg]
    simp only [spIn,Bool.true_and,Bool.and_eq_true,decide_eq_true_eq]; omega
  have hkN:k.toNat < g.commits.length:=by omega
  have hd1:=hg.h1
  have hd0:=hg.h0
  have ik:InA out (stAt g k.toNat):=ha _ (nth_mem hkN)
  unfold joinM
  rw [e1]
  simp only [Bool.true_eq_false,if_false]
  have okK:GraOk ⟨g.commits,k⟩:=⟨hg.l,by show -1 ≤ k; omega,hk,hg.c⟩
  split
  · rename_i hc
    refine ⟨rfl,⟨okK,hk0,?_,.inl rfl⟩,fun _ => rfl⟩
    show stAt g k.toNat = _
    split
    · rfl
    · rename_i hh
      rcases hc with hc | hc
      · exact absurd hc hh
      · obtain ⟨q1,q2⟩:=marks_below hW hg ha hkN hc
        exact (in_sub hW (ha _ (nth_mem q1)) ik q2).1.symm
  rename_i hc
  simp only [not_or] at hc
  obtain ⟨hh,hc⟩:=hc
  have hhN:g.head.toNat < g.commits.length:=by omega
  have ih:InA out (stAt g g.head.toNat):=ha _ (nth_mem hhN)
  rw [if_neg hh]
  split
  · rename_i hm
    obtain ⟨q1,q2⟩:=marks_below hW hg ha hhN hm
    exact ⟨rfl,⟨hg,by show 0 ≤ g.head; omega,(in_sub hW ik ih q2).2.1.symm,.inl rfl⟩,fun h => absurd h hh⟩
  rename_i hm
  obtain ⟨m1,m2,m3,_⟩:=in_merge hW ih ik
  have hne:k ≠ g.head:=by
    rintro rfl
    refine hc ?_
    have:=runM_mono g (startM g.commits.length g.head.toNat) g.commits.length 0 (y:=g.head.toNat) (by
      show nth (startM g.commits.length g.head.toNat) g.head.toNat = true
      unfold startM
      rw [nth_set,if_pos ⟨rfl,by simpa using hhN⟩]) g.commits.length
    rwa [Nat.zero_add] at this
  have b1:=(in_sub hW ih m1 m2).2.2
  have b2:=(in_sub hW ik m1 m3).2.2
  have hups:∀ j:Nat,j < (if k < g.head then [k,g.head] else [g.head,k]).length → 0 ≤ nth (if k < g.head then [k,g.head] else [g.head,k]) j ∧ nth (if k < g.head then [k,g.head] else [g.head,k]) j < g.commits.length ∧ (j = 0 ∨ nth (if k < g.head then [k,g.head] else [g.head,k]) (j - 1) < nth (if k < g.head then [k,g.head] else [g.head,k]) j) ∧
      behind (nth g.commits (nth (if k < g.head then [k,g.head] else [g.head,k]) j).toNat).state (mergeState (stAt g g.head.toNat) (stAt g k.toNat)) = true:=by
    intro j hj
    by_cases hlt:k < g.head
    · rw [if_pos hlt] at hj ⊢
      simp only [List.length_cons,List.length_nil] at hj
      have:j = 0 ∨ j = 1:=by omega
      rcases this with rfl | rfl
      · exact ⟨hk0,hk,.inl rfl,b2⟩
      · exact ⟨by show 0 ≤ g.head; omega,hd1,.inr hlt,b1⟩
    · rw [if_neg hlt] at hj ⊢
      simp only [List.length_cons,List.length_nil] at hj
      have:j = 0 ∨ j = 1:=by omega
      rcases this with rfl | rfl
      · exact ⟨by show 0 ≤ g.head; omega,hd1,.inl rfl,b1⟩
      · exact ⟨hk0,hk,.inr (by show g.head < k; omega),b2⟩
  obtain ⟨c1,c2⟩:=newG_ok (ups:=if k < g.head then [k,g.head] else [g.head,k]) hg hl h0 h2 hn0 hn hq (of_sok (in_sok m1)) (by split <;> simp) hups
  rw [c1]
  refine ⟨rfl,⟨c2,by show 0 ≤ (g.commits.length:Int); omega,?_,.inr ⟨_,rfl⟩⟩,fun h => absurd h hh⟩
  show (nth (g.commits ++ [_]) (g.commits.length:Int).toNat).state = _
  rw [Int.toNat_natCast,nth_more_at]
  rfl
end Am
namespace Am
open Go
def cntI (l:List Int) (v:Int):Nat → Int
  | 0 => 0
  | i + 1 => if nth l i = v then cntI l v i + 1 else cntI l v i
theorem cntI_bd (l:List Int) (v:Int):∀ i:Nat,0 ≤ cntI l v i ∧ cntI l v i ≤ i
  | 0 => by simp [cntI]
  | i + 1 => by
    have:=cntI_bd l v i
    rw [cntI]
    push_cast
    split <;> omega
theorem cntI_one {l:List Int} {v:Int} (hp:l.Pairwise (· < ·)) (hv:v ∈ l):cntI l v l.length = 1:=by
  obtain ⟨p,hpl,rfl⟩:=mem_nth hv
  have inj:∀ i:Nat,i < l.length → nth l i = nth l p → i = p:=fun i hi e => by
    rw [nth_eq hi,nth_eq hpl] at e
    rcases Nat.lt_trichotomy i p with h | h | h
    · have:=List.pairwise_iff_getElem.1 hp i p hi hpl h; omega
    · exact h
    · have:=List.pairwise_iff_getElem.1 hp p i hpl hi h; omega
  have key:∀ i:Nat,i ≤ l.length → cntI l (nth l p) i = if p < i then 1 else 0:=by
    intro i
    induction i with
    | zero => intro _; simp [cntI]
    | succ i ih =>
      intro hi
      rw [cntI,ih (by omega)]
      by_cases e:i = p
      · subst e
        rw [if_pos rfl,if_neg (by omega),if_pos (by omega)]; rfl
      · rw [if_neg (fun h => e (inj i (by omega) h))]
        by_cases h1:p < i
        · rw [if_pos h1,if_pos (by omega)]
        · rw [if_neg h1,if_neg (by omega)]
  rw [key _ (Nat.le_refl _),if_pos hpl]
theorem upsR_eq {g:GGraph} (hg:GraOk g) {k:Nat} (hk:k < g.commits.length):upsR g k = upsL g k:=by
  have e2:spIn (k:Int) 0 (g.commits.length - 1) = true:=by simp only [spIn,Bool.and_eq_true,decide_eq_true_eq]; omega
  rw [upsR,e2,graphOk_iff.2 hg,Int.toNat_natCast]; rfl
theorem upsL_sorted (g:GGraph) (k:Nat):(upsL g k).Pairwise (· < ·):=by rw [upsL_F]; exact markF_sorted _ _
theorem upsL_has {g:GGraph} (hg:GraOk g) {k x:Nat} (hk:k < g.commits.length):(x:Int) ∈ upsL g k ↔ x < g.commits.length ∧ nth (marksS g k) x = true:=by
  have:=upsL_mem (graphOk_ups (graphOk_iff.2 hg)) hk x
  simp only [hasX] at this
  constructor
  · intro h
    rw [decide_eq_true h] at this
    simpa using this.symm
  · rintro ⟨h1,h2⟩
    rw [h2] at this
    simpa [h1] using this
theorem joints_law {g:GGraph} (hg:GraOk g) {a b:Nat} (ha:a < g.commits.length) (hb:b < g.commits.length) {i:Nat} (hi:i < (jointsR g a b).length) :
    (∃ x:Nat,x < g.commits.length ∧ nth (jointsR g a b) i = x ∧ nth (marksS g a) x = true ∧ nth (marksS g b) x = true) ∧ cntI (upsR g a) (nth (jointsR g a b) i) (upsR g a).length = 1 ∧ cntI (upsR g b) (nth (jointsR g a b) i) (upsR g b).length = 1 ∧
    ∀ j:Nat,j < (jointsR g a b).length → j ≠ i → ∀ n:Nat,n < (upsR g (nth (jointsR g a b) j)).length → nth (upsR g (nth (jointsR g a b) j)) n ≠ nth (jointsR g a b) i:=by
  have hu:=graphOk_ups (graphOk_iff.2 hg)
  have ea:spIn (a:Int) 0 (g.commits.length - 1) = true:=by simp only [spIn,Bool.and_eq_true,decide_eq_true_eq]; omega
  have eb:spIn (b:Int) 0 (g.commits.length - 1) = true:=by simp only [spIn,Bool.and_eq_true,decide_eq_true_eq]; omega
  have e:jointsR g a b = markF (joinP g a b) g.commits.length:=by
    rw [jointsR,ea,eb,graphOk_iff.2 hg,Int.toNat_natCast,Int.toNat_natCast]; rfl
  have mem:∀ j:Nat,j < (jointsR g a b).length → ∃ x:Nat,x < g.commits.length ∧ joinP g a b x = true ∧ nth (jointsR g a b) j = x:=fun j hj => by
    have h:=nth_mem hj
    rw [e] at h ⊢
    exact markF_mem.1 h
  have hpw:(jointsR g a b).Pairwise (· < ·):=by rw [e]; exact markF_sorted _ _
  obtain ⟨x,x1,x2,x3⟩:=mem i hi
  have x2':=x2
  simp only [joinP,bothU,Bool.and_eq_true] at x2'
  obtain ⟨⟨y1,y2⟩,y3⟩:=x2'
  refine ⟨⟨x,x1,x3,y1,y2⟩,?_,?_,fun j hj hne n hn he => ?_⟩
  · rw [upsR_eq hg ha,x3]
    exact cntI_one (upsL_sorted g a) ((upsL_has hg ha).2 ⟨x1,y1⟩)
  · rw [upsR_eq hg hb,x3]
    exact cntI_one (upsL_sorted g b) ((upsL_has hg hb).2 ⟨x1,y2⟩)
  · obtain ⟨z,z1,z2,z3⟩:=mem j hj
    rw [z3] at hn he
    rw [upsR_eq hg z1] at hn he
    have hm:=nth_mem hn
    rw [he,x3] at hm
    obtain ⟨_,w2⟩:=(upsL_has hg z1).1 hm
    have hxz:=marksS_le hu z1 w2
    have hxz2:x ≠ z:=by
      rintro rfl
      rw [nth_eq hi] at x3
      rw [nth_eq hj] at z3
      rcases Nat.lt_trichotomy i j with h | h | h
      · have:=List.pairwise_iff_getElem.1 hpw i j hi hj h; omega
      · exact hne h.symm
      · have:=List.pairwise_iff_getElem.1 hpw j i hj hi h; omega
    have z2':=z2
    simp only [joinP,Bool.and_eq_true] at z2'
    have:=allB_iff.1 y3 z z1
    have q:(decide (x < z)) = true:=by simp; omega
    have hbz:=z2'.1
    simp only [bothU,Bool.and_eq_true] at hbz
    simp [hbz.1,hbz.2,q,w2] at this
theorem base_law {out:List GAct} {g:GGraph} (hW:Wo out) (hg:GraOk g) (hA:AllIn out g) {a b:Nat} (ha:a < g.commits.length) (hb:b < g.commits.length) :
    behind (baseOf g a b) (stAt g a) = true ∧ behind (baseOf g a b) (stAt g b) = true:=by
  have key:∀ i:Nat,i ≤ (jointsR g a b).length → InA out (baseK g (jointsR g a b) i) ∧ below (baseK g (jointsR g a b) i) (stAt g a) ∧ below (baseK g (jointsR g a b) i) (stAt g b):=by
    intro i
    induction i with
    | zero => intro _; exact ⟨in_new out,new_below (hA _ (nth_mem ha)),new_below (hA _ (nth_mem hb))⟩
    | succ i ih =>
      intro hi
      obtain ⟨h1,h2,h3⟩:=ih (by omega)
      obtain ⟨⟨x,x1,x2,x3,x4⟩,_⟩:=joints_law hg ha hb (show i < (jointsR g a b).length by omega)
      rw [baseK,x2,Int.toNat_natCast]
      obtain ⟨m1,_,_,m4⟩:=in_merge hW h1 (hA _ (nth_mem x1))
      exact ⟨m1,m4 _ (hA _ (nth_mem ha)) h2 (marks_below hW hg hA ha x3).2,m4 _ (hA _ (nth_mem hb)) h3 (marks_below hW hg hA hb x4).2⟩
  obtain ⟨h1,h2,h3⟩:=key _ (Nat.le_refl _)
  exact ⟨(in_sub hW h1 (hA _ (nth_mem ha)) h2).2.2,(in_sub hW h1 (hA _ (nth_mem hb)) h3).2.2⟩
structure Pair (out:List GAct) (g h:GGraph) (n:Int):Prop where
  w:Wo out
  g1:GraOk g
  h1:GraOk h
  ag:AllIn out g
  ah:AllIn out h
  a:Agree g.commits h.commits
  l:g.commits.length + h.commits.length ≤ 79
  n0:0 ≤ n
  n1:n ≤ 999
  qg:∀ c,c ∈ g.commits → c.id.seq ≤ n
  qh:∀ c,c ∈ h.commits → c.id.seq ≤ n
structure FetG (out:List GAct) (g h:GGraph) (n:Int) (cs:List GCommit) (p:Nat):Prop where
  f:fetched g h h.head = (⟨cs,g.head⟩,(p:Int))
  ft:Fet g h cs
  pl:p < cs.length
  s:(nth cs p).state = stAt h h.head.toNat
  a:AllIn out ⟨cs,g.head⟩
  q:∀ c,c ∈ cs → c.id.seq ≤ n
  l:cs.length < 80
theorem fet_pair {out:List GAct} {g h:GGraph} {n:Int} (hp:Pair out g h n) (hh:0 ≤ h.head):∃ cs p,FetG out g h n cs p:=by
  have hd:=hp.h1.h1
  obtain ⟨cs,p,f1,f2,f3,f4,f5⟩:=fetched_law hp.g1 hp.h1 hp.a (by have:=hp.l; omega) hh hd
  refine ⟨cs,p,f1,f2,f3,f5,fun c hc => ?_,fun c hc => ?_,?_⟩
  · rcases f2.new c hc with h1 | ⟨y,h1,h2,h3⟩
    · exact hp.ag c h1
    · rw [h3]; exact hp.ah y h1
  · rcases f2.new c hc with h1 | ⟨y,h1,h2,h3⟩
    · exact hp.qg c h1
    · rw [h2]; exact hp.qh y h1
  · have e:=congrArg (fun z:GGraph × Int => z.1.commits.length) f1
    have h2:=fetK_len g h (upsL h h.head.toNat) (upsL h h.head.toNat).length
    have h3:=upsL_len h h.head.toNat
    have h4:=hp.l
    have h5:=f2.len
    simp only at e
    rw [← e]
    unfold fetched
    split
    · show (fetK g h _ _).length < 80
      omega
    · show g.commits.length < 80
      omega
theorem graphs_law {out:List GAct} {g h:GGraph} {n:Int} (hp:Pair out g h n) (hh:0 ≤ h.head) {cs:List GCommit} {p:Nat} (hf:FetG out g h n cs p) :
    (joinM ⟨cs,g.head⟩ 0 p).2 = true ∧ Joi ⟨cs,g.head⟩ (joinM ⟨cs,g.head⟩ 0 p).1 0 (if g.head < 0 then stAt h h.head.toNat else mergeState (stAt g g.head.toNat) (stAt h h.head.toNat)) ∧ (g.head < 0 → (joinM ⟨cs,g.head⟩ 0 p).1.head = p) ∧
    behind (stAt h h.head.toNat) (stAt (joinM ⟨cs,g.head⟩ 0 p).1 (joinM ⟨cs,g.head⟩ 0 p).1.head.toNat) = true ∧
    (0 ≤ g.head → behind (baseOf ⟨cs,g.head⟩ g.head p) (stAt g g.head.toNat) = true ∧ behind (baseOf ⟨cs,g.head⟩ g.head p) (stAt h h.head.toNat) = true):=by
  have hd:=hp.h1.h1
  have hgd:=hp.g1.h1
  have hkl:=hf.ft.len
  have ihh:InA out (stAt h h.head.toNat):=hp.ah _ (nth_mem (show h.head.toNat < h.commits.length by omega))
  obtain ⟨j1,j2,j3⟩:=joined_law (g:=⟨cs,g.head⟩) (r:=0) (k:=p) hp.w hf.ft.ok hf.a hf.l (by decide) (by decide) hp.n0 hp.n1 hf.q (by omega) (by have:=hf.pl; show (p:Int) < cs.length; omega)
  have e1:stAt ⟨cs,g.head⟩ (p:Int).toNat = stAt h h.head.toNat:=by rw [Int.toNat_natCast]; exact hf.s
  have e2:0 ≤ g.head → stAt ⟨cs,g.head⟩ g.head.toNat = stAt g g.head.toNat:=fun h0 => by
    show (nth cs g.head.toNat).state = _
    rw [hf.ft.old _ (by omega)]; rfl
  have e3:(if (⟨cs,g.head⟩:GGraph).head < 0 then stAt ⟨cs,g.head⟩ (p:Int).toNat else mergeState (stAt ⟨cs,g.head⟩ (⟨cs,g.head⟩:GGraph).head.toNat) (stAt ⟨cs,g.head⟩ (p:Int).toNat)) = (if g.head < 0 then stAt h h.head.toNat else mergeState (stAt g g.head.toNat) (stAt h h.head.toNat)):=by
    rw [e1]
    show (if g.head < 0 then _ else _) = _
    split
    · rfl
    · rw [show (⟨cs,g.head⟩:GGraph).head = g.head from rfl,e2 (by omega)]
  rw [e3] at j2
  refine ⟨j1,j2,j3,?_,fun h0 => ?_⟩
  · rw [j2.st]
    split
    · exact (in_sub hp.w ihh ihh (in_refl ihh)).2.2
    · have ig:InA out (stAt g g.head.toNat):=hp.ag _ (nth_mem (show g.head.toNat < g.commits.length by omega))
      obtain ⟨m1,_,m3,_⟩:=in_merge hp.w ig ihh
      exact (in_sub hp.w ihh m1 m3).2.2
  · have hgl:g.head.toNat < cs.length:=by omega
    obtain ⟨b1,b2⟩:=base_law (g:=⟨cs,g.head⟩) hp.w hf.ft.ok hf.a hgl hf.pl
    rw [e2 h0,Int.toNat_of_nonneg h0] at b1
    rw [Int.toNat_of_nonneg h0] at b2
    have e1':stAt ⟨cs,g.head⟩ p = stAt h h.head.toNat:=hf.s
    rw [e1'] at b2
    exact ⟨b1,b2⟩
end Am
namespace Am
open Go Go.Proofs
open Cel (cells)
set_option maxRecDepth 100000
structure GCur where
  b:List UInt8
  i:Int
  h:Int
def GCur.Ok (c:GCur):Prop:=0 ≤ c.i ∧ c.i ≤ c.b.length ∧ c.b.length ≤ 1048576
def band (a b:Int):Int:=IntKind.i64.wrap ((BitVec.ofInt IntKind.i64.bits a &&& BitVec.ofInt IntKind.i64.bits b).toNat:Int)
def bxor (a b:Int):Int:=IntKind.i64.wrap ((BitVec.ofInt IntKind.i64.bits a ^^^ BitVec.ofInt IntKind.i64.bits b).toNat:Int)
@[simp ↓] theorem abits_and (a b:Int):abits .i64 (BitVec.ofInt IntKind.i64.bits a &&& BitVec.ofInt IntKind.i64.bits b) = .int .i64 (band a b):=rfl
@[simp ↓] theorem abits_xor (a b:Int):abits .i64 (BitVec.ofInt IntKind.i64.bits a ^^^ BitVec.ofInt IntKind.i64.bits b) = .int .i64 (bxor a b):=rfl
theorem band_bd (a:Int) (n:Nat) (hn:n < 4611686018427387904):0 ≤ band a n ∧ band a n ≤ n:=by
  have h1:(BitVec.ofInt IntKind.i64.bits a &&& BitVec.ofInt IntKind.i64.bits (n:Int)).toNat ≤ n:=by
    rw [BitVec.toNat_and]
    refine Nat.le_trans Nat.and_le_right ?_
    rw [BitVec.toNat_ofInt]
    have:((n:Int) % ((2 ^ IntKind.i64.bits:Nat):Int)) = n:=Int.emod_eq_of_lt (by omega) (by show (n:Int) < 18446744073709551616; omega)
    rw [this]; simp
  unfold band
  rw [wrap64 (by omega) (by omega)]
  omega
def curH (c:GCur):Int:=IntKind.i64.wrap (IntKind.i64.wrap (c.h * 6364136223846793005) + 1442695040888963407)
def curX (c:GCur):Int:=band (bxor ((curH c).fdiv (2 ^ min 33 IntKind.i64.bits)) ((curH c).fdiv (2 ^ min 45 IntKind.i64.bits))) 255
def curB (c:GCur):Int × GCur :=
  if c.i < c.b.length then (band (IntKind.i64.wrap (curX c + (nth c.b c.i.toNat).toNat)) 255,⟨c.b,c.i + 1,curH c⟩) else (curX c,⟨c.b,c.i,curH c⟩)
theorem curX_bd (c:GCur):0 ≤ curX c ∧ curX c ≤ 255:=band_bd _ 255 (by decide)
theorem curB_bd (c:GCur):0 ≤ (curB c).1 ∧ (curB c).1 ≤ 255:=by
  unfold curB
  split
  · exact band_bd _ 255 (by decide)
  · exact curX_bd c
theorem curB_ok {c:GCur} (h:c.Ok):(curB c).2.Ok:=by
  unfold curB
  simp only [GCur.Ok] at h
  split
  · simp only [GCur.Ok]; omega
  · simp only [GCur.Ok]; omega
@[simp] def h62:Hts:={ merge:=fun _ => false,dr:=fun id => if id = 2 then [{},{},{},{},{},{},{},{},{},{},{},{},{}] else if id = 3 then [{},{},{},{},{},{},{},{},{},{}] else if id = 4 then [{},{},{},{},{},{},{},{},{},{},{},{},{},{},{}] else [] }
set_option maxHeartbeats 1000000 in
theorem f62_ok (c:GCur) (hc:c.Ok):FnW Tryz.prog 62 [.ptr [.im c.b.length (flat c.b),.int .i64 c.i,.int .i64 c.h]] (.v (.int .i64 ((curB c).1))) [.ptr [.im ((curB c).2).b.length (flat ((curB c).2).b),.int .i64 ((curB c).2).i,.int .i64 ((curB c).2).h]]:=by
  obtain ⟨b,i,h⟩:=c
  simp only [GCur.Ok] at hc
  obtain ⟨h1,h2,h3⟩:=hc
  obtain ⟨k,rfl⟩:=Int.eq_ofNat_of_zero_le h1
  refine FnW.of_AW TryzT_ok 1 (fn:=Tryz.f62) (by kernel_rfl) rfl (by kernel_rfl) rfl rfl rfl ?_; refine AW_of h62 TryzT_ok (by kernel_rfl) ?_
  rcases Nat.lt_or_ge k b.length with q1 | q1
  · have q2:(k:Int) < b.length:=by omega
    have q3:¬ b = []:=by rintro rfl; simp at q1
    have wi:IntKind.i64.wrap ((k:Int) + 1) = k + 1:=wrap64 (by omega) (by omega)
    have w8:IntKind.i64.wrap ((nth b k).toNat:Int) = (nth b k).toNat:=by have:=(nth b k).toNat_lt; exact wrap64 (by omega) (by omega)
    simp -dsimp [q1,ne_of_lt q1,q3,wi,w8]
    simp [curB,curX,curH,q1]
  · have q2:¬ (k:Int) < b.length:=by omega
    simp -dsimp [Nat.not_lt.2 q1,q1]
    simp [curB,curX,curH,Nat.not_lt.2 q1]
def newK (b:List UInt8):Nat → Int
  | 0 => 93901 + b.length
  | i + 1 => band (IntKind.i64.wrap (IntKind.i64.wrap (IntKind.i64.wrap (newK b i * 131) + (nth b i).toNat) + 7)) 1073741823
def curNew (b:List UInt8):GCur:=⟨b,0,newK b (min b.length 4000)⟩
theorem curNew_ok {b:List UInt8} (h:b.length ≤ 1048576):(curNew b).Ok:=by simp [curNew,GCur.Ok]; omega
@[simp] def h33:Hts:={ merge:=fun _ => false }
set_option maxHeartbeats 1000000 in
theorem f33_ok (b:List UInt8) (hb:b.length ≤ 1048576):FnR Tryz.prog 33 [.v (.im b.length (flat b))] (.ptr [.im ((curNew b)).b.length (flat ((curNew b)).b),.int .i64 ((curNew b)).i,.int .i64 ((curNew b)).h]):=by
  refine FnW.of_AW TryzT_ok 0 (fn:=Tryz.f33) (by kernel_rfl) rfl (by kernel_rfl) rfl rfl rfl ?_; refine AW_of h33 TryzT_ok (by kernel_rfl) ?_
  have w0:IntKind.i64.wrap (93901 + (b.length:Int)) = 93901 + b.length:=wrap64 (by omega) (by omega)
  simp -dsimp [w0]
  refine AWh_loop (fun i:Nat => i ≤ b.length ∧ i ≤ 4000) (fun i => mkE [(0,.c (.im b.length (flat b))),(3,.c (.int .i64 (newK b i))),(4,.c (.int .i64 i))] []) (fun i => b.length - i) 0 (Wk_to [0,3,4] [] rfl rfl (by simp [newK])) (by simp) ?_
  rintro i ⟨hi,h4⟩
  refine AW_of h33 TryzT_ok (by kernel_rfl) ?_
  have wi:IntKind.i64.wrap ((i:Int) + 1) = i + 1:=wrap64 (by omega) (by omega)
  rcases Nat.lt_or_ge i b.length with q1 | q1
  · rcases Nat.lt_or_ge i 4000 with q2 | q2
    · have q2':(i:Int) < 4000:=by omega
      have w8:IntKind.i64.wrap ((nth b i).toNat:Int) = (nth b i).toNat:=by have:=(nth b i).toNat_lt; exact wrap64 (by omega) (by omega)
      simp -dsimp [q1,ne_of_lt q1,q2,q2',w8,wi]
      exact Back_of (i + 1) [0,3,4] [] rfl rfl (by simp [newK]) (by omega) (by omega)
    · have e:i = 4000:=by omega
      have q2':¬ (i:Int) < 4000:=by omega
      simp -dsimp [q1,ne_of_lt q1,q2']
      simp [curNew,e,Nat.min_eq_right (by omega:4000 ≤ b.length)]
  · have e:i = b.length:=by omega
    simp -dsimp [Nat.not_lt.2 q1,q1]
    simp [curNew,e,Nat.min_eq_left (by omega:b.length ≤ 4000)]
def curN (c:GCur) (n:Int):Int × GCur :=
  if n ≤ 0 then (0,c) else if n ≤ 256 then ((curB c).1.tmod n,(curB c).2) else
  ((((curB c).1 * 16777216 + (curB (curB c).2).1 * 65536 + (curB (curB (curB c).2).2).1 * 256 + (curB (curB (curB (curB c).2).2).2).1)).tmod n,(curB (curB (curB (curB c).2).2).2).2)
theorem curN_ok {c:GCur} (h:c.Ok) (n:Int):(curN c n).2.Ok:=by
  unfold curN
  split
  · exact h
  split
  · exact curB_ok h
  · exact curB_ok (curB_ok (curB_ok (curB_ok h)))
theorem tmod_bd {a n:Int} (ha:0 ≤ a) (hn:0 < n):0 ≤ a.tmod n ∧ a.tmod n < n:=by
  rw [Int.tmod_eq_emod_of_nonneg ha]
  exact ⟨Int.emod_nonneg _ (by omega),Int.emod_lt_of_pos _ hn⟩
theorem curN_bd (c:GCur) {n:Int} (hn:0 < n):0 ≤ (curN c n).1 ∧ (curN c n).1 < n:=by
  have h1:=curB_bd c
  have h2:=curB_bd (curB c).2
  have h3:=curB_bd (curB (curB c).2).2
  have h4:=curB_bd (curB (curB (curB c).2).2).2
  unfold curN
  rw [if_neg (by omega)]
  split
  · exact tmod_bd h1.1 hn
  · exact tmod_bd (by omega) hn
@[simp] def h50:Hts:={ merge:=fun _ => false,lend:=fun f => if f = 62 then [.box []] else [] }
set_option maxHeartbeats 1000000 in
theorem f50_ok (c:GCur) (hc:c.Ok) (n:Int):FnW Tryz.prog 50 [.ptr [.im c.b.length (flat c.b),.int .i64 c.i,.int .i64 c.h],.v (.int .i64 n)] (.v (.int .i64 ((curN c n).1))) [.ptr [.im ((curN c n).2).b.length (flat ((curN c n).2).b),.int .i64 ((curN c n).2).i,.int .i64 ((curN c n).2).h],.any]:=by
  have h1:=curB_bd c
  have h2:=curB_bd (curB c).2
  have h3:=curB_bd (curB (curB c).2).2
  have h4:=curB_bd (curB (curB (curB c).2).2).2
  refine FnW.of_AW TryzT_ok 1 (fn:=Tryz.f50) (by kernel_rfl) rfl (by kernel_rfl) rfl rfl rfl ?_; refine AW_of h50 TryzT_ok (by kernel_rfl) ?_
  rcases Int.lt_or_le 0 n with q1 | q1
  rotate_left
  · have q1':¬ 0 < n:=by omega
    simp -dsimp [q1,q1']
    simp [curN,q1]
  have q1':¬ n ≤ 0:=by omega
  have q0:¬ n = 0:=by omega
  rcases Int.lt_or_le 256 n with q2 | q2
  rotate_left
  · simp -dsimp [q1,q1',q2]
    refine ACallW_go ?_
    refine ACallC_go (fun us => f62_ok c hc) ?_
    simp -dsimp [q0]
    simp [curN,q1',q2]
  have q2':¬ n ≤ 256:=by omega
  simp -dsimp [q1,q1',q2,q2']
  refine ACallW_go ?_
  refine ACallC_go (fun us => f62_ok c hc) ?_
  simp -dsimp
  refine ACallW_go ?_
  refine ACallC_go (fun us => f62_ok (curB c).2 (curB_ok hc)) ?_
  simp -dsimp
  refine ACallW_go ?_
  refine ACallC_go (fun us => f62_ok (curB (curB c).2).2 (curB_ok (curB_ok hc))) ?_
  simp -dsimp
  refine ACallW_go ?_
  refine ACallC_go (fun us => f62_ok (curB (curB (curB c).2).2).2 (curB_ok (curB_ok (curB_ok hc)))) ?_
  have w1:IntKind.i64.wrap ((curB c).1 * 16777216) = (curB c).1 * 16777216:=wrap64 (by omega) (by omega)
  have w2:IntKind.i64.wrap ((curB (curB c).2).1 * 65536) = (curB (curB c).2).1 * 65536:=wrap64 (by omega) (by omega)
  have w3:IntKind.i64.wrap ((curB (curB (curB c).2).2).1 * 256) = (curB (curB (curB c).2).2).1 * 256:=wrap64 (by omega) (by omega)
  have w4:IntKind.i64.wrap ((curB c).1 * 16777216 + (curB (curB c).2).1 * 65536) = (curB c).1 * 16777216 + (curB (curB c).2).1 * 65536:=wrap64 (by omega) (by omega)
  have w5:IntKind.i64.wrap ((curB c).1 * 16777216 + (curB (curB c).2).1 * 65536 + (curB (curB (curB c).2).2).1 * 256) = (curB c).1 * 16777216 + (curB (curB c).2).1 * 65536 + (curB (curB (curB c).2).2).1 * 256:=wrap64 (by omega) (by omega)
  have w6:IntKind.i64.wrap ((curB c).1 * 16777216 + (curB (curB c).2).1 * 65536 + (curB (curB (curB c).2).2).1 * 256 + (curB (curB (curB (curB c).2).2).2).1) = (curB c).1 * 16777216 + (curB (curB c).2).1 * 65536 + (curB (curB (curB c).2).2).1 * 256 + (curB (curB (curB (curB c).2).2).2).1:=wrap64 (by omega) (by omega)
  simp -dsimp [q0,w1,w2,w3,w4,w5,w6]
  simp [curN,q1',q2']
def curPick {α:Type} [Cel α] (c:GCur) (l:List α):α × GCur:=(nth l (curN c l.length).1.toNat,(curN c l.length).2)
theorem curPick_ok {α:Type} [Cel α] {c:GCur} (h:c.Ok) (l:List α):(curPick c l).2.Ok:=curN_ok h _
theorem curPick_mem {α:Type} [Cel α] (c:GCur) {l:List α} (h:l ≠ []):(curPick c l).1 ∈ l:=by
  have:0 < l.length:=List.length_pos_iff.2 h
  have:=curN_bd c (n:=l.length) (by omega)
  exact nth_mem (by omega)
@[simp] def h202:Hts:={ merge:=fun _ => false,lend:=fun f => if f = 50 then [.box []] else [] }
theorem f202_ok (c:GCur) (hc:c.Ok) (l:List Int) (hl:l ≠ []):FnW Tryz.prog 202 [.ptr [.im c.b.length (flat c.b),.int .i64 c.i,.int .i64 c.h],.v (.ow 3 1 l.length (flat l))] (.v (.int .i64 ((curPick c l).1))) [.ptr [.im ((curPick c l).2).b.length (flat ((curPick c l).2).b),.int .i64 ((curPick c l).2).i,.int .i64 ((curPick c l).2).h],.any]:=by
  have h0:0 < l.length:=List.length_pos_iff.2 hl
  have hb:=curN_bd c (n:=l.length) (by omega)
  refine FnW.of_AW TryzT_ok 1 (fn:=Tryz.f202) (by kernel_rfl) rfl (by kernel_rfl) rfl rfl rfl ?_; refine AW_of h202 TryzT_ok (by kernel_rfl) ?_
  simp -dsimp
  refine ACallW_go ?_
  refine ACallC_go (fun us => f50_ok c hc l.length) ?_
  obtain ⟨m,hm⟩:=Int.eq_ofNat_of_zero_le hb.1
  rw [hm] at hb
  have q1:m < l.length:=by omega
  simp -dsimp [hm,q1,ne_of_lt q1,hl]
  simp [curPick,hm]
@[simp] def h225:Hts:={ merge:=fun _ => false,lend:=fun f => if f = 50 then [.box []] else [] }
theorem f225_ok (c:GCur) (hc:c.Ok) (l:List ByteArray) (hl:l ≠ []):FnW Tryz.prog 225 [.ptr [.im c.b.length (flat c.b),.int .i64 c.i,.int .i64 c.h],.v (.ow 9 1 l.length (flat l))] (.v (.str ((curPick c l).1))) [.ptr [.im ((curPick c l).2).b.length (flat ((curPick c l).2).b),.int .i64 ((curPick c l).2).i,.int .i64 ((curPick c l).2).h],.any]:=by
  have h0:0 < l.length:=List.length_pos_iff.2 hl
  have hb:=curN_bd c (n:=l.length) (by omega)
  refine FnW.of_AW TryzT_ok 1 (fn:=Tryz.f225) (by kernel_rfl) rfl (by kernel_rfl) rfl rfl rfl ?_; refine AW_of h225 TryzT_ok (by kernel_rfl) ?_
  simp -dsimp
  refine ACallW_go ?_
  refine ACallC_go (fun us => f50_ok c hc l.length) ?_
  obtain ⟨m,hm⟩:=Int.eq_ofNat_of_zero_le hb.1
  rw [hm] at hb
  have q1:m < l.length:=by omega
  simp -dsimp [hm,q1,ne_of_lt q1,hl]
  simp [curPick,hm]
end Am
