/- What is told of two drawn graphs,together. No condition. -/
import Derived.Test.YtjbbhccphedkfaaGreatD
import Derived.Test.YtjbbhccphedkfaaGreatU15
import Derived.Test.YtjbbhccphedkfaaGreatE91
set_option linter.unusedSimpArgs false
set_option linter.unusedVariables false
set_option linter.unnecessarySimpa false
set_option linter.unusedSectionVars false
namespace Am
open Go
theorem graOk_Ok {g:GGraph} (h:GraOk g):g.Ok:=by
  simp only [GGraph.Ok]
  refine ⟨by have:=h.l; omega,fun y hy => ?_⟩
  obtain ⟨i,hi,rfl⟩:=mem_nth hy
  simp only [GCommit.Ok]
  exact ⟨by have:=(h.c i hi).l2; omega,sok_Ok (sok_of (h.c i hi).st)⟩
theorem graph_st {g:GGraph} (hg:g.Ok) {i:Nat} (hi:i < g.commits.length):(nth g.commits i).state.Ok:=by
  simp only [GGraph.Ok] at hg
  have:=hg.2 _ (nth_mem hi)
  simp only [GCommit.Ok] at this
  exact this.2
theorem upsR_len (g:GGraph) (k:Int):(upsR g k).length ≤ g.commits.length + 1:=by
  unfold upsR
  split
  · rename_i h
    simp only [spIn,Bool.and_eq_true,decide_eq_true_eq] at h
    have:=upsL_len g k.toNat
    omega
  · simp
theorem fetched_neg {g h:GGraph} {k:Int} (h0:k < 0):fetched g h k = (g,-1):=by
  have:spIn k 0 ((h.commits.length:Int) - 1) = false:=by simp [spIn]; omega
  unfold fetched
  rw [this]
  simp
structure Joint (g h x y:GGraph) (p a m q:Nat):Prop where
  gl:q < g.commits.length
  xl:q < x.commits.length
  st:(nth y.commits m).state = mergeState (nth g.commits q).state (nth h.commits a).state
  b1:behind (baseOf x q p) (nth g.commits q).state = true
  b2:behind (baseOf x q p) (nth h.commits a).state = true
  jl:(jointsR x q p).length ≤ 80
  c1:∀ i:Nat,i < (jointsR x q p).length → cntI (upsR x p) (nth (jointsR x q p) i) (upsR x p).length = 1
  c2:∀ i:Nat,i < (jointsR x q p).length → cntI (upsR x q) (nth (jointsR x q p) i) (upsR x q).length = 1
  ne:∀ i:Nat,i < (jointsR x q p).length → ∀ j:Nat,j < (jointsR x q p).length → j ≠ i → ∀ n:Nat,n < (upsR x (nth (jointsR x q p) j)).length → nth (upsR x (nth (jointsR x q p) j)) n ≠ nth (jointsR x q p) i
structure Facts (g h x y:GGraph) (p a m:Nat):Prop where
  f:fetched g h a = (x,(p:Int))
  xo:x.Ok
  xk:graphOk x = true
  xh:x.head = g.head
  xl:x.commits.length ≤ 80
  pl:p < x.commits.length
  j:joinM x 0 p = (y,true)
  yo:y.Ok
  yk:graphOk y = true
  al:a < h.commits.length
  ml:m < y.commits.length
  hm:y.head = m
  be:behind (nth h.commits a).state (nth y.commits m).state = true
  neg:g.head < 0 → y.head = p
  pos:∀ q:Nat,g.head = q → Joint g h x y p a m q
theorem graphs_facts {out:List GAct} {g h:GGraph} {n:Int} (hP:Pair out g h n) {a:Nat} (ha:h.head = a):∃ x y p m,Facts g h x y p a m:=by
  have h0:0 ≤ h.head:=by omega
  have hl:a < h.commits.length:=by have:=hP.h1.h1; omega
  obtain ⟨cs,p,hF⟩:=fet_pair hP h0
  obtain ⟨j1,j2,j3,j4,j5⟩:=graphs_law hP h0 hF
  have xk:=hF.ft.ok
  have yk:=j2.ok
  have e1:h.head.toNat = a:=by omega
  rw [e1] at j2 j4 j5
  obtain ⟨m,hm⟩:∃ m:Nat,(joinM ⟨cs,g.head⟩ 0 p).1.head = m:=⟨(joinM ⟨cs,g.head⟩ 0 p).1.head.toNat,by have:=j2.h0; omega⟩
  have e2:(joinM ⟨cs,g.head⟩ 0 p).1.head.toNat = m:=by omega
  have hst:=j2.st
  rw [e2] at j4 hst
  refine ⟨⟨cs,g.head⟩,(joinM ⟨cs,g.head⟩ 0 p).1,p,m,by rw [← ha]; exact hF.f,graOk_Ok xk,graphOk_iff.2 xk,rfl,xk.l,hF.pl,by rw [← j1],graOk_Ok yk,graphOk_iff.2 yk,hl,by have:=yk.h1; omega,hm,j4,j3,fun q hq => ?_⟩
  have hgl:q < g.commits.length:=by have:=hP.g1.h1; omega
  have hxl:q < cs.length:=by have:=hF.ft.len; omega
  have h2:¬ g.head < 0:=by omega
  have e3:g.head.toNat = q:=by omega
  obtain ⟨b1,b2⟩:=j5 (by omega)
  rw [if_neg h2,e3] at hst
  rw [e3] at b1
  rw [hq] at b1 b2
  have jl:=fun i hi => joints_law xk (a:=q) (b:=p) hxl hF.pl (i:=i) hi
  rw [hq] at jl ⊢
  refine ⟨hgl,hxl,?_,b1,b2,?_,fun i hi => (jl i hi).2.2.1,fun i hi => (jl i hi).2.1,fun i hi => (jl i hi).2.2.2⟩
  · rw [hq] at hst; exact hst
  · have h3:=jointsR_lb (⟨cs,(q:Int)⟩:GGraph) q p
    have:=hF.l
    exact Nat.le_trans h3 (Nat.le_of_lt this)
end Am
