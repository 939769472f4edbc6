/- Drawn: any states,right or not. No condition. -/
import Derived.Test.YtjbbhccphedkfaaGreatT
import Derived.Test.YtjbbhccphedkfaaGreatD
import Derived.Test.YtjbbhccphedkfaaGreatU15
import Derived.Test.YtjbbhccphedkfaaGreatE96
import Derived.Test.YtjbbhccphedkfaaGreatE53
import Derived.Test.YtjbbhccphedkfaaGreatE56
import Derived.Test.YtjbbhccphedkfaaGreatAm29
set_option linter.unusedSimpArgs false
set_option linter.unusedVariables false
set_option linter.unnecessarySimpa false
set_option linter.unusedSectionVars false
namespace Am
open Go Go.Proofs
open Cel (cells)
set_option maxRecDepth 100000
end Am
namespace Am
open Go Go.Proofs
open Cel (cells)
set_option maxRecDepth 100000
end Am
namespace Am
open Go Go.Proofs
open Cel (cells)
set_option maxRecDepth 100000
@[simp] def h135:Hts:={ merge:=fun _ => false,mergeF:=fun _ => false,own:=fun d => !(d == 28),lend:=fun f => if f = 177 then [.box []] else [],dr:=fun id => if id = 1 then [{ mn:=[640000],mb:=[15,18,7] },{ mn:=[640000],mb:=[15,18,7] },{ mb:=[7] },{ cr:=true,mb:=[7] },{ mn:=[640000],mb:=[18,7] },{ mb:=[15,7] },{ wr:=[640000],cr:=true,mb:=[7] },{ cr:=true,mb:=[7] },{ mb:=[7] },{ mb:=[7] },{ mn:=[448],mb:=[7] },{ mn:=[640000],cr:=true,mb:=[15,18,19] },{ wr:=[448] },{}] else [] }
set_option maxHeartbeats 4000000 in
theorem f135_ok (c:GCur) (hc:c.Ok) (s:GState) (hs:SOK s) (rep:Int):FnW Tryz.prog 135 [.ptr [.im c.b.length (flat c.b),.int .i64 c.i,.int .i64 c.h],.agg [.im s.know.length (flat s.know),.im s.tallies.length (flat s.tallies),.im s.lives.length (flat s.lives),.im s.cs.length (flat s.cs)],.v (.int .i64 rep)] (.agg [.im ((stepD rep s c).1).know.length (flat ((stepD rep s c).1).know),.im ((stepD rep s c).1).tallies.length (flat ((stepD rep s c).1).tallies),.im ((stepD rep s c).1).lives.length (flat ((stepD rep s c).1).lives),.im ((stepD rep s c).1).cs.length (flat ((stepD rep s c).1).cs)]) [.ptr [.im ((stepD rep s c).2).b.length (flat ((stepD rep s c).2).b),.int .i64 ((stepD rep s c).2).i,.int .i64 ((stepD rep s c).2).h],.any,.any]:=by
  have hO:=sok_Ok hs
  have hO2:=hO
  simp only [GState.Ok] at hO2
  have ht:=timeOf_bd hs
  have wt:IntKind.i64.wrap (timeOf s + 1) = timeOf s + 1:=wrap64 (by omega) (by omega)
  obtain ⟨g1,g2,g3,g4,g5⟩:=editD_good c
  have hAo:(actOf s rep (timeOf s + 1) (editD c).1).1.Ok:=actOf_ok hO (by omega) (by omega)
  refine FnW.of_AW TryzT_ok 1 (fn:=Tryz.f135) (by kernel_rfl) rfl (by kernel_rfl) rfl rfl rfl ?_; refine AW_of h135 TryzT_ok (by kernel_rfl) ?_
  simp -dsimp
  refine ACallK_of (f176_ok s (by omega)) ?_
  simp -dsimp [wt]
  refine ACallW_go ?_
  refine ACallC_go (fun us => f177_ok c hc) ?_
  simp -dsimp
  refine ACallK_of (f175_ok s rep (timeOf s + 1) (editD c).1 hO (by omega) (by omega) (by omega)) ?_
  by_cases q:(actOf s rep (timeOf s + 1) (editD c).1).2 = 0
  · simp -dsimp [q]
    refine ACallK_of (f178_ok s (actOf s rep (timeOf s + 1) (editD c).1).1 hO hAo) ?_
    simp -dsimp
    simp [stepD,q]
  · simp -dsimp [q]
    simp [stepD,q]
end Am
namespace Am
open Go Go.Proofs
open Cel (cells)
set_option maxRecDepth 100000
theorem seqK_nn (cs:List GCommit) (r:Int):∀ i:Nat,0 ≤ seqK cs r i
  | 0 => by simp [seqK]
  | i + 1 => by
    have:=seqK_nn cs r i
    rw [seqK]
    split
    · rename_i h; omega
    · exact this
theorem seqK_le1 (cs:List GCommit) (r:Int) (h:∀ c,c ∈ cs → c.id.seq ≤ 1000) (i:Nat) (hi:i ≤ cs.length):seqK cs r i ≤ 1000:=(seqK_le cs r (n:=1000) (by decide) h i hi).2
theorem newG_okB {g:GGraph} (hg:g.Ok) (hl:g.commits.length ≤ 1000) {ups:List Int} (hu:ups.length ≤ 1000) {s:GState} (hs:s.Ok) (r:Int):(newG g r ups s).Ok:=by
  simp only [GGraph.Ok,newG,newCom] at hg ⊢
  refine ⟨by rw [List.length_append]; simp only [List.length_singleton]; omega,fun y hy => ?_⟩
  rcases List.mem_append.1 hy with hy | hy
  · exact hg.2 y hy
  · simp only [List.mem_singleton] at hy
    subst hy
    simp only [GCommit.Ok]
    exact ⟨by omega,hs⟩
@[simp] def h131:Hts:={ merge:=fun _ => false }
theorem f131_ok:FnR Tryz.prog 131 [] (.agg [.ow 62 7 graphNew.commits.length (flatO graphNew.commits),.int .i64 graphNew.head]):=by
  rw [graphNew]
  refine FnW.of_AW TryzT_ok 0 (fn:=Tryz.f131) (by kernel_rfl) rfl (by kernel_rfl) rfl rfl rfl ?_; refine AW_of h131 TryzT_ok (by kernel_rfl) ?_
  simp -dsimp
@[simp] def h136:Hts:={ merge:=fun _ => false,mergeF:=fun _ => false,dr:=fun id => if id = 10 then [{ mn:=[3712,3840,3968,3969,3970,3971],mb:=[58,60,62,64] },{ mn:=[3712,3840,3968,3969,3970,3971],mb:=[58,60,62,64] },{ mn:=[3712],mb:=[58,60,62] },{ mn:=[3712],mb:=[58,60,62] },{ mn:=[3712],mb:=[58,60,62] },{ mn:=[3712],mb:=[58,60,62] },{ cr:=true },{ mb:=[58] },{ wr:=[3712],cr:=true },{ mn:=[3712],mb:=[58,60] },{ cr:=true },{},{ wr:=[3840,3968,3969,3970,3971],cr:=true },{ wr:=[3392,896,4096],cr:=true },{ wr:=[640] },{ wr:=[640] }] else [] }
set_option maxHeartbeats 4000000 in
theorem f136_ok (g:GGraph) (hg:g.Ok) (hl:g.commits.length ≤ 1000) (r:Int) (ups:List Int) (hu:ups.length ≤ 1000) (s:GState) (hs:s.Ok):FnR Tryz.prog 136 [.agg [.im g.commits.length (flat g.commits),.int .i64 g.head],.v (.int .i64 r),.v (.im ups.length (flat ups)),.agg [.im s.know.length (flat s.know),.im s.tallies.length (flat s.tallies),.im s.lives.length (flat s.lives),.im s.cs.length (flat s.cs)]] (.tup [.agg [.ow 62 7 ((commitTo g r ups s).1).commits.length (flatO ((commitTo g r ups s).1).commits),.int .i64 ((commitTo g r ups s).1).head],.v (.bool ((commitTo g r ups s).2))]):=by
  have hgo:=hg
  simp only [GGraph.Ok] at hg
  refine FnW.of_AW TryzT_ok 0 (fn:=Tryz.f136) (by kernel_rfl) rfl (by kernel_rfl) rfl rfl rfl ?_; refine AW_of h136 TryzT_ok (by kernel_rfl) ?_
  simp -dsimp
  refine ACallK_of (f173_ok _ hgo) ?_
  simp -dsimp
  refine AWh_loop (fun i:Nat => i ≤ g.commits.length) (fun i => mkE [(1,.c (.int .i64 r)),(2,.c (.im ups.length (flat ups))),(4,.box 256 0),(7,.box 448 0),(8,.box 512 0),(10,.box 640 0),(11,.c (.int .i64 (seqK g.commits r i))),(12,.c (.int .i64 i))] [(256,.box [.c (.im g.commits.length (flat g.commits)),.c (.int .i64 g.head)]),(448,.box [.c (.im s.know.length (flat s.know)),.c (.im s.tallies.length (flat s.tallies)),.c (.im s.lives.length (flat s.lives)),.c (.im s.cs.length (flat s.cs))]),(512,.box [.nil,.c (.int .i64 0)]),(640,.box [.arr 896,.c (.int .i64 g.head)]),(896,.arr 0 62 7 g.commits.length (flatO g.commits))]) (fun i => g.commits.length - i) 0 (Wk_to [1,2,4,7,8,10,11,12] [(256,256),(448,448),(512,512),(640,640),(896,896)] rfl rfl (by simp [seqK])) (by simp) ?_
  rintro i hi
  have wi:IntKind.i64.wrap ((i:Int) + 1) = i + 1:=wrap64 (by omega) (by omega)
  refine AW_of h136 TryzT_ok (by kernel_rfl) ?_
  rcases Nat.lt_or_ge i g.commits.length with h1 | h1
  · by_cases e1:(nth g.commits i).id.rep = r
    · by_cases e2:seqK g.commits r i < (nth g.commits i).id.seq
      · have hs1:seqK g.commits r (i + 1) = (nth g.commits i).id.seq:=by rw [seqK,if_pos ⟨e1,e2⟩]
        simp -dsimp [e1,e2,h1,ne_of_lt h1,wi]
        repeat (first|refine ⟨by omega,?_⟩|refine ⟨by simp [capMax];omega,?_⟩|refine ⟨⟨by omega,by omega⟩,?_⟩)
        exact Back_of (i + 1) [1,2,4,7,8,10,11,12] [(256,256),(448,448),(512,512),(640,640),(896,896)] rfl rfl (by simp [hs1]) (by omega) (by omega)
      · have hs1:seqK g.commits r (i + 1) = seqK g.commits r i:=by rw [seqK,if_neg (fun h => e2 h.2)]
        simp -dsimp [e1,e2,h1,ne_of_lt h1,wi]
        repeat (first|refine ⟨by omega,?_⟩|refine ⟨by simp [capMax];omega,?_⟩|refine ⟨⟨by omega,by omega⟩,?_⟩)
        exact Back_of (i + 1) [1,2,4,7,8,10,11,12] [(256,256),(448,448),(512,512),(640,640),(896,896)] rfl rfl (by simp [hs1]) (by omega) (by omega)
    · have hs1:seqK g.commits r (i + 1) = seqK g.commits r i:=by rw [seqK,if_neg (fun h => e1 h.1)]
      have eb:((nth g.commits i).id.rep == r) = false:=by simp [e1]
      simp -dsimp [eb,e1,h1,ne_of_lt h1,wi]
      repeat (first|refine ⟨by omega,?_⟩|refine ⟨by simp [capMax];omega,?_⟩|refine ⟨⟨by omega,by omega⟩,?_⟩)
      exact Back_of (i + 1) [1,2,4,7,8,10,11,12] [(256,256),(448,448),(512,512),(640,640),(896,896)] rfl rfl (by simp [hs1]) (by omega) (by omega)
  obtain rfl:i = g.commits.length:=by omega
  have h0:=seqK_nn g.commits r g.commits.length
  have eS:seqOf g.commits r = seqK g.commits r g.commits.length:=rfl
  by_cases q1:1000 < seqK g.commits r g.commits.length
  · simp -dsimp [q1]
    simp [commitTo,eS,q1]
  have w1:IntKind.i64.wrap (seqK g.commits r g.commits.length + 1) = seqK g.commits r g.commits.length + 1:=wrap64 (by omega) (by omega)
  have w3:IntKind.i64.wrap (g.commits.length:Int) = g.commits.length:=wrap64 (by omega) (by omega)
  have w2:IntKind.i64.wrap ((g.commits.length:Int) + 1) = g.commits.length + 1:=wrap64 (by omega) (by omega)
  have ha:flatO (g.commits ++ [newCom g r ups s]) = flatO g.commits ++ CelO.cellsO (newCom g r ups s):=by rw [flatO_append,flatO_cons,flatO_nil,List.append_nil]
  simp -dsimp [q1,w1,w2,w3]
  refine ⟨by simp [capMax]; omega,?_⟩
  refine ACallK_of (f90_ok _ hs) ?_
  simp -dsimp [w3]
  repeat (first|refine ⟨by omega,?_⟩|refine ⟨by simp [capMax];omega,?_⟩|refine ⟨⟨by omega,by omega⟩,?_⟩)
  have hN:=newG_okB hgo hl hu hs r
  have hG:=f85_ok (newG g r ups s) hN
  obtain ⟨q,q2⟩:∃ q,graphOk (newG g r ups s) = q:=⟨_,rfl⟩
  rw [q2] at hG
  simp only [newG,newCom,eS,List.length_append,List.length_singleton] at hG
  refine ACallK_of (hG) ?_
  cases q
  · simp -dsimp
    refine ACallK_of (f173_ok _ hgo) ?_
    simp -dsimp
    simp [commitTo,eS,q1,q2]
  simp -dsimp
  have eC:commitTo g r ups s = (newG g r ups s,true):=by simp [commitTo,eS,q1,q2]
  simp [eC,newG,newCom,eS]
@[simp] def h83:Hts:={ merge:=fun _ => false,mergeF:=fun _ => false,dr:=fun id => if id = 9 then [{ mn:=[2624,2752,2753,2754,2755],mb:=[41,43,45] },{ mn:=[2624,2752,2753,2754,2755],mb:=[41,43,45] },{ mb:=[41,43] },{ mb:=[41,43] },{ mb:=[41,43] },{ mb:=[41,43] },{},{ cr:=true },{ mb:=[41] },{ cr:=true },{},{ wr:=[2624,2752,2753,2754,2755],cr:=true },{ wr:=[2240,2112,2880],cr:=true },{ wr:=[832] },{ wr:=[832] }] else [] }
set_option maxHeartbeats 4000000 in
theorem f83_ok (g:GGraph) (hg:g.Ok) (hk:graphOk g = true) (r:Int) (ups:List Int) (hu:ups.length ≤ 1000) (s:GState) (hs:s.Ok):FnR Tryz.prog 83 [.agg [.im g.commits.length (flat g.commits),.int .i64 g.head],.v (.int .i64 r),.v (.im ups.length (flat ups)),.agg [.im s.know.length (flat s.know),.im s.tallies.length (flat s.tallies),.im s.lives.length (flat s.lives),.im s.cs.length (flat s.cs)]] (.tup [.agg [.ow 62 7 ((commitTo g r ups s).1).commits.length (flatO ((commitTo g r ups s).1).commits),.int .i64 ((commitTo g r ups s).1).head],.v (.bool ((commitTo g r ups s).2))]):=by
  have hgo:=hg
  have hgk:=graphOk_iff.1 hk
  have hl:=hgk.l
  have hq:∀ c,c ∈ g.commits → c.id.seq ≤ 1000:=fun c hc => by
    obtain ⟨i,hi,rfl⟩:=mem_nth hc
    have:=(hgk.c i hi).id
    simp only [dotOk,spIn,Bool.and_eq_true,decide_eq_true_eq] at this
    omega
  simp only [GGraph.Ok] at hg
  refine FnW.of_AW TryzT_ok 0 (fn:=Tryz.f83) (by kernel_rfl) rfl (by kernel_rfl) rfl rfl rfl ?_; refine AW_of h83 TryzT_ok (by kernel_rfl) ?_
  simp -dsimp
  refine AWh_loop (fun i:Nat => i ≤ g.commits.length) (fun i => mkE [(1,.c (.int .i64 r)),(2,.c (.im ups.length (flat ups))),(4,.box 256 0),(7,.box 448 0),(8,.box 512 0),(10,.c (.int .i64 (seqK g.commits r i))),(15,.c (.im g.commits.length (flat g.commits))),(16,.c (.int .i64 g.commits.length)),(17,.c (.int .i64 i))] [(256,.box [.c (.im g.commits.length (flat g.commits)),.c (.int .i64 g.head)]),(448,.box [.c (.im s.know.length (flat s.know)),.c (.im s.tallies.length (flat s.tallies)),.c (.im s.lives.length (flat s.lives)),.c (.im s.cs.length (flat s.cs))]),(512,.box [.nil,.c (.int .i64 0)])]) (fun i => g.commits.length - i) 0 (Wk_to [1,2,4,7,8,10,15,16,17] [(256,256),(448,448),(512,512)] rfl rfl (by simp [seqK])) (by simp) ?_
  rintro i hi
  have wi:IntKind.i64.wrap ((i:Int) + 1) = i + 1:=wrap64 (by omega) (by omega)
  refine AW_of h83 TryzT_ok (by kernel_rfl) ?_
  rcases Nat.lt_or_ge i g.commits.length with h1 | h1
  · by_cases e1:(nth g.commits i).id.rep = r
    · have hs1:seqK g.commits r (i + 1) = if seqK g.commits r i < (nth g.commits i).id.seq then (nth g.commits i).id.seq else seqK g.commits r i:=by
        rw [seqK]
        by_cases h:seqK g.commits r i < (nth g.commits i).id.seq
        · rw [if_pos h,if_pos ⟨e1,h⟩]
        · rw [if_neg h,if_neg (fun k => h k.2)]
      simp -dsimp [e1,h1,ne_of_lt h1,wi]
      repeat (first|refine ⟨by omega,?_⟩|refine ⟨by simp [capMax];omega,?_⟩|refine ⟨⟨by omega,by omega⟩,?_⟩)
      exact Back_of (i + 1) [1,2,4,7,8,10,15,16,17] [(256,256),(448,448),(512,512)] rfl rfl (by simp [hs1]) (by omega) (by omega)
    · have hs1:seqK g.commits r (i + 1) = seqK g.commits r i:=by rw [seqK,if_neg (fun h => e1 h.1)]
      have eb:((nth g.commits i).id.rep == r) = false:=by simp [e1]
      simp -dsimp [eb,e1,h1,ne_of_lt h1,wi]
      repeat (first|refine ⟨by omega,?_⟩|refine ⟨by simp [capMax];omega,?_⟩|refine ⟨⟨by omega,by omega⟩,?_⟩)
      exact Back_of (i + 1) [1,2,4,7,8,10,15,16,17] [(256,256),(448,448),(512,512)] rfl rfl (by simp [hs1]) (by omega) (by omega)
  obtain rfl:i = g.commits.length:=by omega
  have h0:=seqK_nn g.commits r g.commits.length
  have h01:=seqK_le1 g.commits r hq g.commits.length (Nat.le_refl _)
  have eS:seqOf g.commits r = seqK g.commits r g.commits.length:=rfl
  have w1:IntKind.i64.wrap (seqK g.commits r g.commits.length + 1) = seqK g.commits r g.commits.length + 1:=wrap64 (by omega) (by omega)
  have w3:IntKind.i64.wrap (g.commits.length:Int) = g.commits.length:=wrap64 (by omega) (by omega)
  have q1:¬ 1000 < seqK g.commits r g.commits.length:=by omega
  simp -dsimp
  refine ACallK_of (f76_ok _ hgo) ?_
  simp -dsimp [w1,w3]
  refine ACallK_of (f138_ok _ (by omega:ups.length ≤ 1073741824)) ?_
  simp -dsimp
  refine ACallK_of (f80_ok _ hs) ?_
  simp -dsimp [w3]
  repeat (first|refine ⟨by omega,?_⟩|refine ⟨by simp [capMax];omega,?_⟩|refine ⟨⟨by omega,by omega⟩,?_⟩)
  refine ACallK_of (f25_ok _ hgo) ?_
  rw [hk]
  simp -dsimp [w3]
  have hN:=newG_okB hgo (by omega) hu hs r
  have hG:=f25_ok (newG g r ups s) hN
  obtain ⟨q,q2⟩:∃ q,graphOk (newG g r ups s) = q:=⟨_,rfl⟩
  rw [q2] at hG
  simp only [newG,newCom,eS,List.length_append,List.length_singleton] at hG
  refine ACallK_of (hG) ?_
  cases q
  · simp -dsimp
    refine ACallK_of (f76_ok _ hgo) ?_
    simp -dsimp
    simp [commitTo,eS,q1,q2]
  simp -dsimp
  have eC:commitTo g r ups s = (newG g r ups s,true):=by simp [commitTo,eS,q1,q2]
  simp [eC,newG,newCom,eS]
theorem spIn_nat {k n:Nat} (h:k < n):spIn (k:Int) 0 ((n:Int) - 1) = true:=by simp only [spIn,Bool.and_eq_true,decide_eq_true_eq]; omega
theorem joinM_at {g:GGraph} (hk:graphOk g = true) (r:Int) {k:Nat} (h:k < g.commits.length):joinM g r k = if g.head < 0 ∨ nth (marksS g k) g.head.toNat = true then (⟨g.commits,k⟩,true)
  else if nth (marksS g g.head.toNat) k = true then (g,true)
  else commitTo g r (if (k:Int) < g.head then [(k:Int),g.head] else [g.head,(k:Int)]) (mergeState (stAt g g.head.toNat) (stAt g k)):=by
  simp only [joinM,hk,spIn_nat h,Bool.and_self,Bool.true_eq_false,if_false,Int.toNat_natCast]
@[simp] def h134:Hts:={ merge:=fun _ => false,mergeF:=fun _ => false,dr:=fun id => if id = 4 then [{},{},{},{},{},{},{ cr:=true },{ mb:=[31] },{ mb:=[31] },{},{},{}] else if id = 12 then [{ mb:=[76] },{ mb:=[76] },{ mb:=[76] },{},{},{},{},{},{},{},{},{},{},{},{},{},{ cr:=true },{ cr:=true },{},{},{ wr:=[384] },{}] else [] }
set_option maxHeartbeats 4000000 in
theorem f134_ok (g:GGraph) (hg:g.Ok) (hk:graphOk g = true) (r:Int) (k:Nat) (hl:k < g.commits.length):FnR Tryz.prog 134 [.agg [.im g.commits.length (flat g.commits),.int .i64 g.head],.v (.int .i64 r),.v (.int .i64 k)] (.tup [.agg [.ow 62 7 ((joinM g r k).1).commits.length (flatO ((joinM g r k).1).commits),.int .i64 ((joinM g r k).1).head],.v (.bool ((joinM g r k).2))]):=by
  rw [joinM_at hk r hl]
  have hgo:=hg
  have hgk:=graphOk_iff.1 hk
  have hgl:=hgk.l
  have hu:=graphOk_ups hk
  simp only [GGraph.Ok] at hg
  have hul:∀ y,y ∈ g.commits → y.ups.length ≤ 1073741824:=fun y hy => by have:=hg.2 y hy; simp only [GCommit.Ok] at this; exact this.1
  have hst:∀ i:Nat,i < g.commits.length → (nth g.commits i).state.Ok:=fun i hi => by have:=hg.2 _ (nth_mem hi); simp only [GCommit.Ok] at this; exact this.2
  have w0:IntKind.i64.wrap ((g.commits.length:Int) - 1) = g.commits.length - 1:=wrap64 (by omega) (by omega)
  have hin:=spIn_nat hl
  refine FnW.of_AW TryzT_ok 0 (fn:=Tryz.f134) (by kernel_rfl) rfl (by kernel_rfl) rfl rfl rfl ?_; refine AW_of h134 TryzT_ok (by kernel_rfl) ?_
  simp -dsimp
  refine ACallK_of (f173_ok _ hgo) ?_
  simp -dsimp
  refine ACallK_of (f85_ok _ hgo) ?_
  rw [hk]
  simp -dsimp [w0]
  refine ACallK_of (f86_ok _ _ _) ?_
  rw [hin]
  by_cases h0:g.head < 0
  · simp -dsimp [h0]
  obtain ⟨h,hh⟩:∃ h:Nat,g.head = h:=⟨g.head.toNat,by omega⟩
  have hhl:h < g.commits.length:=by have:=hgk.h1; omega
  have hm1:=marksS_len g k
  have hm2:=marksS_len g h
  have hne1:¬ marksS g k = []:=ne_of_lt (i:=h) (by rw [hm1]; exact hhl)
  have hne2:¬ marksS g h = []:=ne_of_lt (i:=k) (by rw [hm2]; exact hl)
  have hhi:(h:Int) < (g.commits.length:Int):=by omega
  have hki:(k:Int) < (g.commits.length:Int):=by omega
  have h0':((h:Int) < 0) = False:=eq_false (by omega)
  simp -dsimp [h0',hh]
  have c1:=f88_ok g hu hg.1 hul k hl
  have c2:=f88_ok g hu hg.1 hul h hhl
  have c3:=fun ups hu => f136_ok g hgo (by omega) r ups hu (mergeState (stAt g h) (stAt g k)) (mergeState_okB (hst h hhl) (hst k hl))
  rw [hh] at c1 c2
  rw [hh] at c3
  rw [hm1] at c1
  rw [hm2] at c2
  rw [hh,Int.toNat_natCast]
  refine ACallK_of (c1) ?_
  cases q1:nth (marksS g k) h
  case true =>
    simp -dsimp [hm1,hne1,hhl,hhi,hh,q1]
    repeat (first|refine ⟨by omega,?_⟩|refine ⟨by simp [capMax];omega,?_⟩|refine ⟨⟨by omega,by omega⟩,?_⟩)
  simp -dsimp [hm1,hne1,hhl,hhi,hh,q1]
  repeat (first|refine ⟨by omega,?_⟩|refine ⟨by simp [capMax];omega,?_⟩|refine ⟨⟨by omega,by omega⟩,?_⟩)
  refine ACallK_of (c2) ?_
  cases q2:nth (marksS g h) k
  case true =>
    simp -dsimp [hm2,hne2,hl,hki,hh,q2]
    repeat (first|refine ⟨by omega,?_⟩|refine ⟨by simp [capMax];omega,?_⟩|refine ⟨⟨by omega,by omega⟩,?_⟩)
    simp [hh,h0']
  by_cases lt:k < h
  · have lt':(k:Int) < h:=by omega
    have c4:=c3 [(k:Int),(h:Int)] (by simp)
    simp -dsimp [hm2,hne2,hl,hki,hh,q2,lt,lt',hhl,hhi,ne_of_lt hhl,ne_of_lt hl]
    repeat (first|refine ⟨by omega,?_⟩|refine ⟨by simp [capMax];omega,?_⟩|refine ⟨⟨by omega,by omega⟩,?_⟩)
    refine ACallK_of (f31_ok _ _ (hst h hhl) (hst k hl)) ?_
    simp -dsimp
    refine ACallK_of (c4) ?_
    simp -dsimp
    simp [lt,h0']
  · have lt':¬ (k:Int) < h:=by omega
    have c4:=c3 [(h:Int),(k:Int)] (by simp)
    simp -dsimp [hm2,hne2,hl,hki,hh,q2,lt,lt',hhl,hhi,ne_of_lt hhl,ne_of_lt hl]
    repeat (first|refine ⟨by omega,?_⟩|refine ⟨by simp [capMax];omega,?_⟩|refine ⟨⟨by omega,by omega⟩,?_⟩)
    refine ACallK_of (f31_ok _ _ (hst h hhl) (hst k hl)) ?_
    simp -dsimp
    refine ACallK_of (c4) ?_
    simp -dsimp
    simp [lt,h0']
@[simp] def h24:Hts:={ merge:=fun _ => false,mergeF:=fun _ => false,dr:=fun id => if id = 4 then [{},{},{},{},{},{},{ cr:=true },{ mb:=[25] },{ mb:=[25] },{ cr:=true },{},{}] else if id = 11 then [{ mb:=[9] },{ mb:=[9] },{ mb:=[9] },{ mb:=[9] },{ mb:=[9] },{ mb:=[9] },{ mb:=[9] },{ mb:=[9] },{ mb:=[9] },{ mb:=[9] },{ mb:=[9] },{ mb:=[9] },{ mb:=[9] },{ cr:=true,mb:=[9] },{ cr:=true,mb:=[61] },{ wr:=[576] }] else [] }
set_option maxHeartbeats 4000000 in
theorem f24_ok (g:GGraph) (hg:g.Ok) (hk:graphOk g = true) (r:Int) (k:Nat) (hl:k < g.commits.length):FnR Tryz.prog 24 [.agg [.im g.commits.length (flat g.commits),.int .i64 g.head],.v (.int .i64 r),.v (.int .i64 k)] (.tup [.agg [.ow 62 7 ((joinM g r k).1).commits.length (flatO ((joinM g r k).1).commits),.int .i64 ((joinM g r k).1).head],.v (.bool ((joinM g r k).2))]):=by
  rw [joinM_at hk r hl]
  have hgo:=hg
  have hgk:=graphOk_iff.1 hk
  have hgl:=hgk.l
  have hu:=graphOk_ups hk
  simp only [GGraph.Ok] at hg
  have hst:∀ i:Nat,i < g.commits.length → (nth g.commits i).state.Ok:=fun i hi => by have:=hg.2 _ (nth_mem hi); simp only [GCommit.Ok] at this; exact this.2
  have hin:=spIn_nat hl
  refine FnW.of_AW TryzT_ok 0 (fn:=Tryz.f24) (by kernel_rfl) rfl (by kernel_rfl) rfl rfl rfl ?_; refine AW_of h24 TryzT_ok (by kernel_rfl) ?_
  simp -dsimp
  refine ACallK_of (f76_ok _ hgo) ?_
  simp -dsimp
  refine ACallK_of (f75_ok _ _ hg.1) ?_
  rw [hin]
  by_cases h0:g.head < 0
  · have h1:=hgk.h0
    have hh:g.head = -1:=by omega
    simp -dsimp [h0,hh]
  obtain ⟨h,hh⟩:∃ h:Nat,g.head = h:=⟨g.head.toNat,by omega⟩
  have hhl:h < g.commits.length:=by have:=hgk.h1; omega
  have hhi:(h:Int) < (g.commits.length:Int):=by omega
  have hki:(k:Int) < (g.commits.length:Int):=by omega
  have h0':((h:Int) < 0) = False:=eq_false (by omega)
  have h1':((h:Int) == -1) = false:=by simp
  have h2':((h:Int) = -1) = False:=eq_false (by omega)
  have u1:=upsL_mem hu hl h
  have u2:=upsL_mem hu hhl k
  rw [decide_eq_true hhl,Bool.true_and] at u1
  rw [decide_eq_true hl,Bool.true_and] at u2
  have l1:=upsL_len g k
  have l2:=upsL_len g h
  have c1:=f28_ok g hgo k
  have c2:=f28_ok g hgo h
  have c3:=fun ups hu => f83_ok g hgo hk r ups hu (mergeState (stAt g h) (stAt g k)) (mergeState_okB (hst h hhl) (hst k hl))
  have c5:=f75_ok g h hg.1
  rw [spIn_nat hhl] at c5
  rw [upsR_eq hgk hl] at c1
  rw [upsR_eq hgk hhl] at c2
  rw [hh] at c1 c2 c5
  rw [hh] at c3
  rw [hh,Int.toNat_natCast]
  simp -dsimp [h1',h2',hh]
  refine ACallK_of (c1) ?_
  simp -dsimp [hh]
  refine ACallK_of (f81_ok _ _ (by omega)) ?_
  rw [u1]
  cases q1:nth (marksS g k) h
  case true =>
    simp -dsimp [hh,q1]
  simp -dsimp [hh,q1]
  refine ACallK_of (c2) ?_
  simp -dsimp [hh]
  refine ACallK_of (f81_ok _ _ (by omega)) ?_
  rw [u2]
  cases q2:nth (marksS g h) k
  case true =>
    simp -dsimp [hh,q2]
    simp [hh,h0']
  simp -dsimp [hh,q2]
  refine ACallK_of (c5) ?_
  simp -dsimp [hl,hki,hh,q2,hhl,hhi,ne_of_lt hhl,ne_of_lt hl]
  repeat (first|refine ⟨by omega,?_⟩|refine ⟨by simp [capMax];omega,?_⟩|refine ⟨⟨by omega,by omega⟩,?_⟩)
  refine ACallK_of (f82_ok _ _ (hst h hhl) (hst k hl)) ?_
  by_cases lt:k < h
  · have lt':(k:Int) < h:=by omega
    have lt2:¬ (h:Int) < k:=by omega
    have c4:=c3 [(k:Int),(h:Int)] (by simp)
    simp -dsimp [lt,lt',lt2]
    refine ACallK_of (c4) ?_
    simp -dsimp
    simp [lt,h0']
  · have lt':¬ (k:Int) < h:=by omega
    have c4:=c3 [(h:Int),(k:Int)] (by simp)
    have hm:nth (marksS g k) k = true:=by
      obtain ⟨j,hj,e⟩:=upsL_self hu hl
      have u3:=upsL_mem hu hl k
      rw [decide_eq_true hl,Bool.true_and] at u3
      rw [← u3,hasX,decide_eq_true_eq,← e]
      exact nth_mem hj
    have hne:h ≠ k:=fun e => by rw [e,hm] at q1; cases q1
    have lt2:h < k:=by omega
    have lt3:(h:Int) < k:=by omega
    simp -dsimp [lt,lt',lt2,lt3]
    refine ACallK_of (c4) ?_
    simp -dsimp
    simp [lt,h0']
end Am
namespace Am
open Go Go.Proofs
open Cel (cells)
set_option maxRecDepth 100000
def listG (a:GS):List GGraph:=[a.g0,a.g1]
def listS (a:GS):List GState:=[a.s0,a.s1]
theorem two2 {r:Nat} (h:r < 2):r = 0 ∨ r = 1:=by omega
theorem gra_okB {out:List GAct} {g:GGraph} (h:GraOk g) (ha:AllIn out g):g.Ok:=by
  simp only [GGraph.Ok]
  refine ⟨by have:=h.l; omega,fun y hy => ?_⟩
  have hs:=in_sok (ha y hy)
  obtain ⟨i,hi,rfl⟩:=mem_nth hy
  simp only [GCommit.Ok]
  exact ⟨by have:=(h.c i hi).l2; omega,sok_Ok hs⟩
theorem gw_at {a:GS} {n:Nat} (h:GW a n) (hn:n ≤ 39) {r:Nat} (hr:r < 2):∃ out,Pair out (nth (listG a) r) (nth (listG a) (1 - r)) 39 ∧ InA out (nth (listS a) r):=by
  obtain ⟨out,reg,hW,h0,h1⟩:=h
  have up:∀ {g h:GGraph},Pair out g h n → Pair out g h 39:=fun hP => ⟨hP.w,hP.g1,hP.h1,hP.ag,hP.ah,hP.a,hP.l,by decide,by decide,fun c hc => by have:=hP.qg c hc; omega,fun c hc => by have:=hP.qh c hc; omega⟩
  rcases two2 hr with rfl | rfl
  · exact ⟨out,up (gr_pair hW hn h0 h1),h0.st⟩
  · exact ⟨out,up (gr_pair hW hn h1 h0),h1.st⟩
theorem gsN_fet {a:GS} {r:Nat} (hr:(gsR a).1 = r) (h2:r < 2) (hk:(gsK a).1 = 0) (hh:0 ≤ (nth (listG a) (1 - r)).head) :
    listG (gsN a) = (listG a).set r (fetG (nth (listG a) r) (nth (listG a) (1 - r)) r) ∧ listS (gsN a) = (listS a).set r (fetS (nth (listG a) r) (nth (listG a) (1 - r)) (nth (listS a) r) r) ∧ (gsN a).c = (gsK a).2:=by
  rcases two2 h2 with rfl | rfl
  · have hh:0 ≤ a.g1.head:=hh
    have hr:(gsR a).1 = 0:=hr
    unfold gsN
    rw [if_pos hk,if_pos hr,if_pos hh]
    exact ⟨rfl,rfl,rfl⟩
  · have hh:0 ≤ a.g0.head:=hh
    have hr:¬ (gsR a).1 = 0:=by omega
    unfold gsN
    rw [if_pos hk,if_neg hr,if_pos hh]
    exact ⟨rfl,rfl,rfl⟩
theorem gsN_no {a:GS} {r:Nat} (hr:(gsR a).1 = r) (h2:r < 2) (hk:(gsK a).1 = 0) (hh:¬ 0 ≤ (nth (listG a) (1 - r)).head) :
    listG (gsN a) = listG a ∧ listS (gsN a) = listS a ∧ (gsN a).c = (gsK a).2:=by
  rcases two2 h2 with rfl | rfl
  · have hh:¬ 0 ≤ a.g1.head:=hh
    have hr:(gsR a).1 = 0:=hr
    unfold gsN
    rw [if_pos hk,if_pos hr,if_neg hh]
    exact ⟨rfl,rfl,rfl⟩
  · have hh:¬ 0 ≤ a.g0.head:=hh
    have hr:¬ (gsR a).1 = 0:=by omega
    unfold gsN
    rw [if_pos hk,if_neg hr,if_neg hh]
    exact ⟨rfl,rfl,rfl⟩
theorem gsN_com {a:GS} {r:Nat} (hr:(gsR a).1 = r) (h2:r < 2) (hk:¬ (gsK a).1 = 0) :
    listG (gsN a) = (listG a).set r (commitTo (nth (listG a) r) r (headL (nth (listG a) r)) (stepD r (nth (listS a) r) (gsK a).2).1).1 ∧ listS (gsN a) = (listS a).set r (stepD r (nth (listS a) r) (gsK a).2).1 ∧ (gsN a).c = (stepD r (nth (listS a) r) (gsK a).2).2:=by
  rcases two2 h2 with rfl | rfl
  · have hr:(gsR a).1 = 0:=hr
    unfold gsN
    rw [if_neg hk,if_pos hr]
    exact ⟨rfl,rfl,rfl⟩
  · have hr:¬ (gsR a).1 = 0:=by omega
    unfold gsN
    rw [if_neg hk,if_neg hr]
    exact ⟨rfl,rfl,rfl⟩
def gsC:Nat → Int → GS → GCur
  | 0,_,a => (curN a.c 7).2
  | f + 1,i,a => if i < 3 + (curN a.c 7).1 then gsC f (i + 1) (gsN { a with c:=(curN a.c 7).2 }) else (curN a.c 7).2
theorem gsN_c {a:GS} (h:a.c.Ok):(gsN a).c.Ok:=by
  have h1:(gsR a).2.Ok:=curN_ok h 2
  have h2:(gsK a).2.Ok:=curN_ok h1 4
  unfold gsN
  repeat' split
  all_goals first
    | exact h2
    | exact stepD_ok h2 0 a.s0
    | exact stepD_ok h2 1 a.s1
@[simp] def h74:Hts:={ merge:=fun _ => false,mergeF:=fun _ => false,own:=fun d => !(d == 14 || d == 15 || d == 17 || d == 18 || d == 98 || d == 118 || d == 69),lend:=fun f => if f = 50 || f = 135 then [.box []] else [],dr:=fun id => if id = 16 then [{ mb:=[9] },{ mb:=[9] },{ mb:=[9] },{ mb:=[9] },{ mb:=[9] },{ mb:=[9] },{ mb:=[9] },{ cr:=true,mb:=[9] },{ mb:=[9] },{ mb:=[9] },{ mn:=[576],mb:=[9] },{ cr:=true,mb:=[91] },{ wr:=[576] },{}] else if id = 19 then [{ mb:=[118] },{ mb:=[118] },{},{},{},{},{},{},{},{},{},{},{},{ cr:=true },{ wr:=[1216] },{ wr:=[1216] }] else if id = 12 then [{ mb:=[69] },{ mb:=[69] },{},{},{},{},{},{},{},{},{},{},{ cr:=true },{},{},{ mn:=[1024] },{ wr:=[1024] },{ wr:=[1024] }] else if id = 20 then [{},{},{},{ mn:=[128] },{ mn:=[128] },{ mn:=[128] },{ wr:=[128] },{ wr:=[192] }] else [] }
set_option maxHeartbeats 16000000 in
theorem f74_ok (c:GCur) (hc:c.Ok):FnW Tryz.prog 74 [.ptr [.im c.b.length (flat c.b),.int .i64 c.i,.int .i64 c.h]] (.tup [.agg [.im ((graphsD c).g0).commits.length (flat ((graphsD c).g0).commits),.int .i64 ((graphsD c).g0).head],.agg [.im ((graphsD c).g1).commits.length (flat ((graphsD c).g1).commits),.int .i64 ((graphsD c).g1).head]]) [.ptr [.im (gsC 9 0 (gs0 c)).b.length (flat (gsC 9 0 (gs0 c)).b),.int .i64 (gsC 9 0 (gs0 c)).i,.int .i64 (gsC 9 0 (gs0 c)).h]]:=by
  refine FnW.of_AW TryzT_ok 1 (fn:=Tryz.f74) (by kernel_rfl) rfl (by kernel_rfl) rfl rfl rfl ?_; refine AW_of h74 TryzT_ok (by kernel_rfl) ?_
  simp -dsimp
  refine ACallK_of (f131_ok) ?_
  simp -dsimp
  refine ACallK_of (f131_ok) ?_
  simp -dsimp
  refine ACallK_of (f132_ok) ?_
  simp -dsimp
  refine ACallK_of (f132_ok) ?_
  simp -dsimp
  have f1:flat (listG (gs0 c)) = [.im 0 [],.int .i64 (-1),.im 0 [],.int .i64 (-1)]:=rfl
  have f2:flat (listS (gs0 c)) = [.im 3 (flat [(0:Int),0,0]),.im 0 [],.im 0 [],.im 0 [],.im 3 (flat [(0:Int),0,0]),.im 0 [],.im 0 [],.im 0 []]:=rfl
  have f3:(gs0 c).c = c:=rfl
  refine AWh_loop (fun q:Nat × GS => q.1 ≤ 9 ∧ q.2.c.Ok ∧ GW q.2 q.1 ∧ (gsRun (9 - q.1) q.1 q.2).g0 = (graphsD c).g0 ∧ (gsRun (9 - q.1) q.1 q.2).g1 = (graphsD c).g1 ∧ gsC (9 - q.1) q.1 q.2 = gsC 9 0 (gs0 c)) (fun q => mkE [(0,.box 640000 0),(2,.box 128 0),(3,.box 192 0),(4,.arr 1024),(5,.arr 1216),(6,.c (.int .i64 q.1))] [(640000,.box [.c (.im q.2.c.b.length (flat q.2.c.b)),.c (.int .i64 q.2.c.i),.c (.int .i64 q.2.c.h)]),(128,.box [.nil,.c (.int .i64 0)]),(192,.box [.nil,.c (.int .i64 0)]),(1024,.arr 0 50 2 2 (flat (listG q.2))),(1216,.arr 0 29 4 2 (flat (listS q.2)))]) (fun q => 9 - q.1) (0,gs0 c) (Wk_to [0,2,3,4,5,6] [(640000,640000),(128,128),(192,192),(1024,1024),(1216,1216)] rfl rfl (by simp [f1,f2,f3,graphNew,stateNew])) ⟨by simp,hc,gs0_world c,rfl,rfl,rfl⟩ ?_
  rintro ⟨i,a⟩ ⟨hi,hac,hw,hq1,hq2,hq3⟩
  simp only at hi hac hw hq1 hq2 hq3
  refine AW_of h74 TryzT_ok (by kernel_rfl) ?_
  have hb:=curN_bd a.c (n:=7) (by decide)
  have w3:IntKind.i64.wrap (3 + (curN a.c 7).1) = 3 + (curN a.c 7).1:=wrap64 (by omega) (by omega)
  have wi:IntKind.i64.wrap ((i:Int) + 1) = i + 1:=wrap64 (by omega) (by omega)
  simp -dsimp
  refine ACallW_go ?_
  refine ACallC_go (fun us => f50_ok a.c hac 7) ?_
  have hac1:=curN_ok hac 7
  rcases Int.lt_or_le (i:Int) (3 + (curN a.c 7).1) with p1 | p1
  rotate_left
  · have p1':¬ (i:Int) < 3 + (curN a.c 7).1:=by omega
    have e1:a.g0 = (graphsD c).g0 ∧ a.g1 = (graphsD c).g1 ∧ (curN a.c 7).2 = gsC 9 0 (gs0 c):=by
      rw [← hq1,← hq2,← hq3]
      generalize 9 - i = f
      cases f with
      | zero => exact ⟨rfl,rfl,rfl⟩
      | succ f => rw [gsRun,gsC,if_neg p1',if_neg p1']; exact ⟨rfl,rfl,rfl⟩
    have g1:nth (listG a) 0 = a.g0:=rfl
    have g2:nth (listG a) 1 = a.g1:=rfl
    have g3:(listG a).length = 2:=rfl
    have g4:¬ listG a = []:=by simp [listG]
    have g5:List.take 2 (flat (listG a)) = [.im a.g0.commits.length (flat a.g0.commits),.int .i64 a.g0.head]:=rfl
    have g6:List.take 2 (List.drop 2 (flat (listG a))) = [.im a.g1.commits.length (flat a.g1.commits),.int .i64 a.g1.head]:=rfl
    have g7:(listG a).length = 2:=rfl
    simp -dsimp [w3,p1',g4,g5,g6,g7]
    simp [e1.1,e1.2.1,e1.2.2]
  obtain ⟨f,hf⟩:∃ f:Nat,9 - i = f + 1:=⟨8 - i,by omega⟩
  rw [hf] at hq1 hq2 hq3
  rw [gsRun,if_pos p1] at hq1 hq2
  rw [gsC,if_pos p1] at hq3
  have hwb:GW ({ a with c:=(curN a.c 7).2 }:GS) i:=hw
  have eb:(⟨a.g0,a.g1,a.s0,a.s1,(curN a.c 7).2⟩:GS).c = (curN a.c 7).2:=rfl
  have eG:listG a = listG (⟨a.g0,a.g1,a.s0,a.s1,(curN a.c 7).2⟩:GS):=rfl
  have eS:listS a = listS (⟨a.g0,a.g1,a.s0,a.s1,(curN a.c 7).2⟩:GS):=rfl
  simp -dsimp [w3,p1]
  rw [eG,eS]
  rw [← eb] at hac1
  generalize (⟨a.g0,a.g1,a.s0,a.s1,(curN a.c 7).2⟩:GS) = b at *
  rw [← eb]
  have hN:=gsN_world hwb (by omega)
  have hNc:=gsN_c hac1
  have hc2:(gsR b).2.Ok:=curN_ok hac1 2
  have hc3:(gsK b).2.Ok:=curN_ok hc2 4
  have b2:=curN_bd b.c (n:=2) (by decide)
  have b4:=curN_bd (gsR b).2 (n:=4) (by decide)
  obtain ⟨r,hr,hr2⟩:∃ r:Nat,(gsR b).1 = r ∧ r < 2:=⟨(gsR b).1.toNat,by unfold gsR; omega,by unfold gsR; omega⟩
  have eR1:(curN b.c 2).1 = r:=hr
  have eR2:(curN b.c 2).2 = (gsR b).2:=rfl
  have eK1:(curN (gsR b).2 4).1 = (gsK b).1:=rfl
  have eK2:(curN (gsR b).2 4).2 = (gsK b).2:=rfl
  refine ACallW_go ?_
  refine ACallC_go (fun us => f50_ok b.c hac1 2) ?_
  rw [eR1,eR2]
  simp -dsimp
  refine ACallW_go ?_
  refine ACallC_go (fun us => f50_ok (gsR b).2 hc2 4) ?_
  rw [eK1,eK2]
  obtain ⟨out,hP,hS⟩:=gw_at hwb (by omega) hr2
  have hgO:=gra_okB hP.g1 hP.ag
  have hhO:=gra_okB hP.h1 hP.ah
  have hsO:=sok_Ok (in_sok hS)
  have hrG:r < (listG b).length:=hr2
  have hrS:r < (listS b).length:=hr2
  have hr2':(r:Int) < 2:=by omega
  have hfet:=fun hk hh => gsN_fet hr hr2 hk hh
  have hno:=fun hk hh => gsN_no hr hr2 hk hh
  have hcom:=fun hk => gsN_com hr hr2 hk
  have wq:IntKind.i64.wrap (1 - (r:Int)) = ((1 - r:Nat):Int):=by rw [wrap64 (by omega) (by omega)]; omega
  obtain ⟨q,hq,hql⟩:∃ q:Nat,1 - r = q ∧ q < 2:=⟨1 - r,rfl,by omega⟩
  rw [hq] at hP wq hhO
  rw [hq] at hfet hno
  have hqG:q < (listG b).length:=hql
  have hq2':(q:Int) < 2:=by omega
  have hinv:(gsRun (9 - (i + 1)) ((i + 1:Nat):Int) (gsN b)).g0 = (graphsD c).g0 ∧ (gsRun (9 - (i + 1)) ((i + 1:Nat):Int) (gsN b)).g1 = (graphsD c).g1 ∧ gsC (9 - (i + 1)) ((i + 1:Nat):Int) (gsN b) = gsC 9 0 (gs0 c):=by
    rw [show 9 - (i + 1) = f by omega,show ((i + 1:Nat):Int) = i + 1 by push_cast; rfl]
    exact ⟨hq1,hq2,hq3⟩
  by_cases k0:(gsK b).1 = 0
  · by_cases hh:0 ≤ (nth (listG b) q).head
    case neg =>
      obtain ⟨m1,m2,m3⟩:=hno k0 hh
      simp -dsimp [k0,wq,hqG,hq2',hh,wi]
      repeat (first|refine ⟨by omega,?_⟩|refine ⟨by simp [capMax];omega,?_⟩|refine ⟨⟨by omega,by omega⟩,?_⟩)
      exact Back_of (i + 1,gsN b) [0,2,3,4,5,6] [(640000,640000),(128,128),(192,192),(1024,1024),(1216,1216)] rfl rfl (by simp [m1,m2,m3]) ⟨by simp only; omega,hNc,hN,hinv⟩ (by simp only; omega)
    obtain ⟨m1,m2,m3⟩:=hfet k0 hh
    obtain ⟨cs,p,hF⟩:=fet_pair hP hh
    have hfO:(⟨cs,(nth (listG b) r).head⟩:GGraph).Ok:=gra_okB hF.ft.ok hF.a
    obtain ⟨j1,j2,j3⟩:=joined_law (g:=⟨cs,(nth (listG b) r).head⟩) (r:=(r:Int)) (k:=p) hP.w hF.ft.ok hF.a hF.l (by omega) (by omega) (n:=39) (by omega) (by omega) hF.q (by omega) (by have:=hF.pl; show (p:Int) < cs.length; omega)
    have hY:fetG (nth (listG b) r) (nth (listG b) q) r = (joinM ⟨cs,(nth (listG b) r).head⟩ r p).1:=by unfold fetG; rw [hF.f]
    have hcF:=f133_ok (nth (listG b) r) (nth (listG b) q) hgO hhO (nth (listG b) q).head
    rw [hF.f] at hcF
    simp only at hcF
    have hcJ:=f134_ok ⟨cs,(nth (listG b) r).head⟩ hfO (graphOk_iff.2 hF.ft.ok) r p hF.pl
    have hyk:=j2.ok
    have hy0:=j2.h0
    have hy1:=hyk.h1
    rw [← hY] at hcJ hyk hy0 hy1
    have hyS:InA out (stAt (fetG (nth (listG b) r) (nth (listG b) q) r) (fetG (nth (listG b) r) (nth (listG b) q) r).head.toNat):=by
      rw [hY,j2.st]
      have hp1:InA out (stAt ⟨cs,(nth (listG b) r).head⟩ (p:Int).toNat):=hF.a _ (nth_mem (by rw [Int.toNat_natCast]; exact hF.pl))
      split
      · exact hp1
      · rename_i h0
        have h0:¬ (nth (listG b) r).head < 0:=h0
        have h3:(nth (listG b) r).head < cs.length:=hF.ft.ok.h1
        exact (in_merge hP.w (hF.a _ (nth_mem (show (nth (listG b) r).head.toNat < cs.length by omega))) hp1).1
    have m2':listS (gsN b) = (listS b).set r (mergeState (nth (listS b) r) (stAt (fetG (nth (listG b) r) (nth (listG b) q) r) (fetG (nth (listG b) r) (nth (listG b) q) r).head.toNat)):=m2
    generalize fetG (nth (listG b) r) (nth (listG b) q) r = y at *
    obtain ⟨w,hw2⟩:∃ w:Nat,y.head = w:=⟨y.head.toNat,by omega⟩
    have hwl:w < y.commits.length:=by omega
    have hwl':(w:Int) < (y.commits.length:Int):=by omega
    rw [hw2,Int.toNat_natCast] at m2' hyS
    have hyO:=sok_Ok (in_sok hyS)
    have ey:(⟨y.commits,(w:Int)⟩:GGraph) = y:=by rw [← hw2]
    simp -dsimp [k0,wq,hqG,hq2',hh,hrG,hr2']
    repeat (first|refine ⟨by omega,?_⟩|refine ⟨by simp [capMax];omega,?_⟩|refine ⟨⟨by omega,by omega⟩,?_⟩)
    refine ACallK_of (hcF) ?_
    simp -dsimp
    refine ACallK_of (hcJ) ?_
    simp -dsimp [hrG,hr2',hrS,hw2,hwl,hwl',ne_of_lt hwl]
    repeat (first|refine ⟨by omega,?_⟩|refine ⟨by simp [capMax];omega,?_⟩|refine ⟨⟨by omega,by omega⟩,?_⟩)
    refine ACallK_of (f31_ok _ _ hsO hyO) ?_
    simp -dsimp [hrG,hr2',hrS,wi]
    repeat (first|refine ⟨by omega,?_⟩|refine ⟨by simp [capMax];omega,?_⟩|refine ⟨⟨by omega,by omega⟩,?_⟩)
    exact Back_of (i + 1,gsN b) [0,2,3,4,5,6] [(640000,640000),(128,128),(192,192),(1024,1024),(1216,1216)] rfl rfl (by simp [m1,m2',m3,ey,stAt]) ⟨by simp only; omega,hNc,hN,hinv⟩ (by simp only; omega)
  have k0':((gsK b).1 == 0) = false:=by simp [k0]
  obtain ⟨m1,m2,m3⟩:=hcom k0
  have hsk:=in_sok hS
  have htO:=sok_Ok (stepD_sok hsk r (gsK b).2)
  have hgl:=hP.g1.l
  simp -dsimp [k0,k0',hrS,hr2']
  repeat (first|refine ⟨by omega,?_⟩|refine ⟨by simp [capMax];omega,?_⟩|refine ⟨⟨by omega,by omega⟩,?_⟩)
  refine ACallW_go ?_
  refine ACallC_go (fun us => f135_ok (gsK b).2 hc3 (nth (listS b) r) hsk r) ?_
  generalize stepD r (nth (listS b) r) (gsK b).2 = t at *
  have hcC:=fun ups hu => f136_ok (nth (listG b) r) hgO (by omega) r ups hu t.1 htO
  have hsr:r < ((listS b).set r t.1).length:=by rw [List.length_set]; exact hrS
  have hsn:nth ((listS b).set r t.1) r = t.1:=by rw [nth_set,if_pos ⟨rfl,hrS⟩]
  by_cases h0:0 ≤ (nth (listG b) r).head
  · have hcU:=hcC [(nth (listG b) r).head] (by simp)
    rw [headL,if_pos h0] at m1
    simp -dsimp [hrS,hr2',hrG,h0,hsr,hsn]
    refine ⟨by simp [capMax],?_⟩
    refine ACallK_of (hcU) ?_
    simp -dsimp [hrS,hr2',hrG,h0,wi]
    repeat (first|refine ⟨by omega,?_⟩|refine ⟨by simp [capMax];omega,?_⟩|refine ⟨⟨by omega,by omega⟩,?_⟩)
    exact Back_of (i + 1,gsN b) [0,2,3,4,5,6] [(640000,640000),(128,128),(192,192),(1024,1024),(1216,1216)] rfl rfl (by simp [m1,m2,m3]) ⟨by simp only; omega,hNc,hN,hinv⟩ (by simp only; omega)
  · have hcU:=hcC [] (by simp)
    rw [headL,if_neg h0] at m1
    simp -dsimp [hrS,hr2',hrG,h0,hsr,hsn]
    repeat (first|refine ⟨by omega,?_⟩|refine ⟨by simp [capMax];omega,?_⟩|refine ⟨⟨by omega,by omega⟩,?_⟩)
    refine ACallK_of (hcU) ?_
    simp -dsimp [hrS,hr2',hrG,h0,wi]
    repeat (first|refine ⟨by omega,?_⟩|refine ⟨by simp [capMax];omega,?_⟩|refine ⟨⟨by omega,by omega⟩,?_⟩)
    exact Back_of (i + 1,gsN b) [0,2,3,4,5,6] [(640000,640000),(128,128),(192,192),(1024,1024),(1216,1216)] rfl rfl (by simp [m1,m2,m3]) ⟨by simp only; omega,hNc,hN,hinv⟩ (by simp only; omega)
def dg (b:List UInt8):GS:=graphsD (curNew b)
@[simp] def h21:Hts:={ merge:=fun _ => false,lend:=fun f => if f = 74 then [.box []] else [] }
theorem f21_ok (b:List UInt8) (hb:b.length ≤ 1048576):FnR Tryz.prog 21 [.v (.im b.length (flat b))] (.tup [.agg [.im ((dg b).g0).commits.length (flat ((dg b).g0).commits),.int .i64 ((dg b).g0).head],.agg [.im ((dg b).g1).commits.length (flat ((dg b).g1).commits),.int .i64 ((dg b).g1).head]]):=by
  refine FnW.of_AW TryzT_ok 0 (fn:=Tryz.f21) (by kernel_rfl) rfl (by kernel_rfl) rfl rfl rfl ?_; refine AW_of h21 TryzT_ok (by kernel_rfl) ?_
  simp -dsimp
  refine ACallK_of (f33_ok b hb) ?_
  simp -dsimp
  refine ACallW_go ?_
  refine ACallC_go (fun us => f74_ok (curNew b) (curNew_ok hb)) ?_
  simp -dsimp [dg]
end Am
