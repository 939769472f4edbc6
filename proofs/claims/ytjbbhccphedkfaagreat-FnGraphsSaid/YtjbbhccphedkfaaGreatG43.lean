/- What two commits have in common is behind both,and none of it is behind another one; joined they know what either knows: the law. No condition. -/
import Derived.Test.YtjbbhccphedkfaaGreatT
import Derived.Test.YtjbbhccphedkfaaGreatD
import Derived.Test.YtjbbhccphedkfaaGreatE56
import Derived.Test.YtjbbhccphedkfaaGreatV5
import Derived.Test.YtjbbhccphedkfaaGreatU43
set_option linter.unusedSimpArgs false
set_option linter.unusedVariables false
set_option linter.unnecessarySimpa false
set_option linter.unusedSectionVars false
namespace Am
open Go Go.Proofs
open Cel (cells)
set_option maxRecDepth 100000
@[simp] def h4:Hts:={ merge:=fun _ => false,mergeF:=fun _ => false,own:=fun _ => false,dr:=fun id => if id = 8 then [{},{},{},{},{},{},{},{},{ cr:=true },{},{},{},{},{},{},{},{},{},{},{},{},{},{},{},{},{},{ cr:=true },{},{}] else if id = 22 then [{},{},{},{},{},{},{},{},{}] else if id = 27 then [{},{},{},{},{},{},{},{},{}] else if id = 34 then [{},{},{},{},{},{ cr:=true },{}] else if id = 38 then [{},{},{},{},{},{},{},{},{},{},{},{},{},{}] else if id = 41 then [{ mb:=[199] },{ mb:=[199] },{ mb:=[199] },{ mb:=[199] },{ mb:=[199] },{ mb:=[199] },{ mb:=[199] },{},{},{},{},{},{},{},{},{},{},{},{},{},{},{ cr:=true },{ cr:=true },{},{},{},{},{},{},{},{},{},{ cr:=true },{},{},{},{},{},{},{},{},{},{},{ cr:=true },{},{}] else [] }
set_option maxHeartbeats 32000000 in
theorem f4_ok (b:List UInt8) (hb0:b.length ≤ 9223372036854775807):FnR Tryz.prog 4 [.v (.im b.length (flat b))] (.v (.bool true)):=by
  refine FnW.of_AW TryzT_ok 0 (fn:=Tryz.f4) (by kernel_rfl) rfl (by kernel_rfl) rfl rfl rfl ?_; refine AW_of h4 TryzT_ok (by kernel_rfl) ?_
  simp -dsimp
  refine ACallK_of (f5_ok b) ?_
  by_cases hb:1048576 < b.length
  · simp -dsimp [hb]
  have hb:b.length ≤ 1048576:=by omega
  have hb':¬ 1048576 < b.length:=by omega
  simp -dsimp [hb']
  refine ACallK_of (f21_ok b hb) ?_
  obtain ⟨out,hP⟩:=graphs_pair (curNew b)
  rw [show graphsD (curNew b) = dg b from rfl] at hP
  generalize (dg b).g0 = g at *
  generalize (dg b).g1 = h at *
  have gO:=graOk_Ok hP.g1
  have hO:=graOk_Ok hP.h1
  simp -dsimp
  rcases Int.lt_or_le h.head 0 with h0 | h0
  · have c:=f22_ok g h gO hO h.head
    rw [fetched_neg h0] at c
    refine ACallK_of (c) ?_
    simp -dsimp [h0]
    refine ACallK_of (f23_ok g gO) ?_
    simp -dsimp
  obtain ⟨a,ha⟩:∃ a:Nat,h.head = a:=⟨h.head.toNat,by omega⟩
  obtain ⟨x,y,p,m,F⟩:=graphs_facts hP ha
  have c:=f22_ok g h gO hO h.head
  rw [show h.head = a from ha,F.f] at c
  have a0:((a:Int) < 0) = False:=eq_false (by omega)
  have p0:((p:Int) < 0) = False:=eq_false (by omega)
  simp -dsimp [ha]
  refine ACallK_of (c) ?_
  simp -dsimp [ha,a0]
  have cJ:=f24_ok x F.xo F.xk 0 p F.pl
  rw [F.j] at cJ
  refine ACallK_of (cJ) ?_
  have cG:=f25_ok y F.yo
  rw [F.yk] at cG
  have cY:=F.hm
  have al:=F.al
  have ml:=F.ml
  have al':(a:Int) < h.commits.length:=by omega
  have ml':(m:Int) < y.commits.length:=by omega
  have cB:=f26_ok _ _ (graph_st hO al) (graph_st F.yo ml)
  rw [F.be] at cB
  rw [cY] at cG
  simp -dsimp [p0,cY]
  refine ACallK_of (cG) ?_
  simp -dsimp [p0,ha,cY,al,ml,al',ml',ne_of_lt al,ne_of_lt ml]
  refine ACallK_of (cB) ?_
  rcases Int.lt_or_le g.head 0 with g0 | g0
  · have e:=F.neg g0
    rw [cY] at e
    simp -dsimp [g0,e]
  obtain ⟨q,hq⟩:∃ q:Nat,g.head = q:=⟨g.head.toNat,by omega⟩
  have J:=F.pos q hq
  have q0:((q:Int) < 0) = False:=eq_false (by omega)
  have gl:=J.gl
  have gl':(q:Int) < g.commits.length:=by omega
  have cJs:=f27_ok x F.xo q p
  have cU:=f28_ok x F.xo p
  have cM:=f28_ok x F.xo q
  have lU:=upsR_len x p
  have lM:=upsR_len x q
  have lx:=F.xl
  have lJ:=J.jl
  simp -dsimp [hq,q0]
  refine ACallK_of (cJs) ?_
  simp -dsimp [hq]
  refine ACallK_of (cU) ?_
  simp -dsimp [hq]
  refine ACallK_of (cM) ?_
  simp -dsimp [hq]
  have c1:=J.c1
  have c2:=J.c2
  have ne:=J.ne
  have hjs:∀ j:Nat,j < (jointsR x q p).length → nth (jointsR x q p) j ∈ jointsR x q p:=fun j hj => nth_mem hj
  clear cJs cU cM cG cB cJ c
  generalize jointsR x q p = js at *
  generalize upsR x p = us at *
  generalize upsR x q = ms at *
  refine AWh_loop (fun i:Nat => i ≤ js.length) (fun i => mkE [(3,.box 192 0),(4,.box 256 0),(5,.box 320 0),(6,.c (.int .i64 p)),(7,.box 448 0),(9,.c (.im js.length (flat js))),(10,.c (.im us.length (flat us))),(11,.c (.im ms.length (flat ms))),(12,.c (.int .i64 i))] [(192,.box [.c (.im g.commits.length (flat g.commits)),.c (.int .i64 q)]),(256,.box [.c (.im h.commits.length (flat h.commits)),.c (.int .i64 a)]),(320,.box [.c (.im x.commits.length (flat x.commits)),.c (.int .i64 x.head)]),(448,.box [.c (.im y.commits.length (flat y.commits)),.c (.int .i64 m)])]) (fun i => js.length - i) 0 (Wk_to [3,4,5,6,7,9,10,11,12] [(192,192),(256,256),(320,320),(448,448)] rfl rfl (by simp)) (by simp) ?_
  rintro i hi
  refine AW_of h4 TryzT_ok (by kernel_rfl) ?_
  have wi:IntKind.i64.wrap ((i:Int) + 1) = i + 1:=wrap64 (by omega) (by omega)
  rcases Nat.lt_or_ge i js.length with h1 | h1
  rotate_left
  · obtain rfl:i = js.length:=by omega
    have cb:=f30_ok x F.xo q p
    have bO:=baseOf_ok F.xo q p
    have st:=J.st
    have cm:=f31_ok _ _ (graph_st gO gl) (graph_st hO al)
    have cs:=f18_ok _ (mergeState (nth g.commits q).state (nth h.commits a).state) (graph_st F.yo ml)
    rw [decide_eq_true st] at cs
    have d1:=f26_ok _ _ bO (graph_st gO gl)
    have d2:=f26_ok _ _ bO (graph_st hO al)
    rw [J.b1] at d1
    rw [J.b2] at d2
    simp -dsimp [hq]
    refine ACallK_of (cb) ?_
    simp -dsimp [al,ml,gl,al',ml',gl',ne_of_lt al,ne_of_lt ml,ne_of_lt gl]
    refine ACallK_of (cm) ?_
    simp -dsimp
    refine ACallK_of (cs) ?_
    simp -dsimp [al,ml,gl,al',ml',gl',ne_of_lt al,ne_of_lt ml,ne_of_lt gl]
    refine ACallK_of (d1) ?_
    simp -dsimp [al,ml,gl,al',ml',gl',ne_of_lt al,ne_of_lt ml,ne_of_lt gl]
    refine ACallK_of (d2) ?_
    simp -dsimp
  simp -dsimp [h1,ne_of_lt h1]
  refine AWh_loop (fun j:Nat => j ≤ us.length) (fun j => mkE [(3,.box 192 0),(4,.box 256 0),(5,.box 320 0),(6,.c (.int .i64 p)),(7,.box 448 0),(9,.c (.im js.length (flat js))),(10,.c (.im us.length (flat us))),(11,.c (.im ms.length (flat ms))),(12,.c (.int .i64 i)),(13,.c (.int .i64 (cntI us (nth js i) j))),(14,.c (.int .i64 j))] [(192,.box [.c (.im g.commits.length (flat g.commits)),.c (.int .i64 q)]),(256,.box [.c (.im h.commits.length (flat h.commits)),.c (.int .i64 a)]),(320,.box [.c (.im x.commits.length (flat x.commits)),.c (.int .i64 x.head)]),(448,.box [.c (.im y.commits.length (flat y.commits)),.c (.int .i64 m)])]) (fun j => us.length - j) 0 (Wk_to [3,4,5,6,7,9,10,11,12,13,14] [(192,192),(256,256),(320,320),(448,448)] rfl rfl (by simp [cntI])) (by simp) ?_
  rintro j hj
  have cb:=cntI_bd us (nth js i) j
  refine AW_of h4 TryzT_ok (by kernel_rfl) ?_
  have wj:IntKind.i64.wrap ((j:Int) + 1) = j + 1:=wrap64 (by omega) (by omega)
  have wc:IntKind.i64.wrap (cntI us (nth js i) j + 1) = cntI us (nth js i) j + 1:=wrap64 (by omega) (by omega)
  rcases Nat.lt_or_ge j us.length with h2 | h2
  · by_cases e:nth us j = nth js i
    · have hs:cntI us (nth js i) (j + 1) = cntI us (nth js i) j + 1:=by rw [cntI,if_pos e]
      simp -dsimp [h1,h2,e,ne_of_lt h1,ne_of_lt h2,wj,wc]
      repeat (first|refine ⟨by omega,?_⟩|refine ⟨by simp [capMax];omega,?_⟩|refine ⟨⟨by omega,by omega⟩,?_⟩)
      exact Back_of (j + 1) [3,4,5,6,7,9,10,11,12,13,14] [(192,192),(256,256),(320,320),(448,448)] rfl rfl (by simp [hs]) (by omega) (by omega)
    · have hs:cntI us (nth js i) (j + 1) = cntI us (nth js i) j:=by rw [cntI,if_neg e]
      have eb:(nth us j == nth js i) = false:=by simp [e]
      simp -dsimp [h1,h2,eb,ne_of_lt h1,ne_of_lt h2,wj,wc]
      repeat (first|refine ⟨by omega,?_⟩|refine ⟨by simp [capMax];omega,?_⟩|refine ⟨⟨by omega,by omega⟩,?_⟩)
      exact Back_of (j + 1) [3,4,5,6,7,9,10,11,12,13,14] [(192,192),(256,256),(320,320),(448,448)] rfl rfl (by simp [hs]) (by omega) (by omega)
  obtain rfl:j = us.length:=by omega
  have k1:=c1 i h1
  simp -dsimp [k1]
  clear cb wj wc hj h2
  refine AWh_loop (fun j:Nat => j ≤ ms.length) (fun j => mkE [(3,.box 192 0),(4,.box 256 0),(5,.box 320 0),(6,.c (.int .i64 p)),(7,.box 448 0),(9,.c (.im js.length (flat js))),(10,.c (.im us.length (flat us))),(11,.c (.im ms.length (flat ms))),(12,.c (.int .i64 i)),(13,.c (.int .i64 (1 + cntI ms (nth js i) j))),(15,.c (.int .i64 j))] [(192,.box [.c (.im g.commits.length (flat g.commits)),.c (.int .i64 q)]),(256,.box [.c (.im h.commits.length (flat h.commits)),.c (.int .i64 a)]),(320,.box [.c (.im x.commits.length (flat x.commits)),.c (.int .i64 x.head)]),(448,.box [.c (.im y.commits.length (flat y.commits)),.c (.int .i64 m)])]) (fun j => ms.length - j) 0 (Wk_to [3,4,5,6,7,9,10,11,12,13,15] [(192,192),(256,256),(320,320),(448,448)] rfl rfl (by simp [cntI])) (by simp) ?_
  rintro j hj
  have cb:=cntI_bd ms (nth js i) j
  refine AW_of h4 TryzT_ok (by kernel_rfl) ?_
  have wj:IntKind.i64.wrap ((j:Int) + 1) = j + 1:=wrap64 (by omega) (by omega)
  have wc:IntKind.i64.wrap (1 + cntI ms (nth js i) j + 1) = 1 + (cntI ms (nth js i) j + 1):=by rw [wrap64 (by omega) (by omega)]; omega
  rcases Nat.lt_or_ge j ms.length with h2 | h2
  · by_cases e:nth ms j = nth js i
    · have hs:cntI ms (nth js i) (j + 1) = cntI ms (nth js i) j + 1:=by rw [cntI,if_pos e]
      simp -dsimp [h1,h2,e,ne_of_lt h1,ne_of_lt h2,wj,wc]
      repeat (first|refine ⟨by omega,?_⟩|refine ⟨by simp [capMax];omega,?_⟩|refine ⟨⟨by omega,by omega⟩,?_⟩)
      exact Back_of (j + 1) [3,4,5,6,7,9,10,11,12,13,15] [(192,192),(256,256),(320,320),(448,448)] rfl rfl (by simp [hs]) (by omega) (by omega)
    · have hs:cntI ms (nth js i) (j + 1) = cntI ms (nth js i) j:=by rw [cntI,if_neg e]
      have eb:(nth ms j == nth js i) = false:=by simp [e]
      simp -dsimp [h1,h2,eb,ne_of_lt h1,ne_of_lt h2,wj,wc]
      repeat (first|refine ⟨by omega,?_⟩|refine ⟨by simp [capMax];omega,?_⟩|refine ⟨⟨by omega,by omega⟩,?_⟩)
      exact Back_of (j + 1) [3,4,5,6,7,9,10,11,12,13,15] [(192,192),(256,256),(320,320),(448,448)] rfl rfl (by simp [hs]) (by omega) (by omega)
  obtain rfl:j = ms.length:=by omega
  have k2:=c2 i h1
  simp -dsimp [k2]
  clear cb wj wc hj h2
  refine AWh_loop (fun j:Nat => j ≤ js.length) (fun j => mkE [(3,.box 192 0),(4,.box 256 0),(5,.box 320 0),(6,.c (.int .i64 p)),(7,.box 448 0),(9,.c (.im js.length (flat js))),(10,.c (.im us.length (flat us))),(11,.c (.im ms.length (flat ms))),(12,.c (.int .i64 i)),(16,.c (.int .i64 j))] [(192,.box [.c (.im g.commits.length (flat g.commits)),.c (.int .i64 q)]),(256,.box [.c (.im h.commits.length (flat h.commits)),.c (.int .i64 a)]),(320,.box [.c (.im x.commits.length (flat x.commits)),.c (.int .i64 x.head)]),(448,.box [.c (.im y.commits.length (flat y.commits)),.c (.int .i64 m)])]) (fun j => js.length - j) 0 (Wk_to [3,4,5,6,7,9,10,11,12,16] [(192,192),(256,256),(320,320),(448,448)] rfl rfl (by simp)) (by simp) ?_
  rintro j hj
  refine AW_of h4 TryzT_ok (by kernel_rfl) ?_
  have wj:IntKind.i64.wrap ((j:Int) + 1) = j + 1:=wrap64 (by omega) (by omega)
  rcases Nat.lt_or_ge j js.length with h2 | h2
  rotate_left
  · obtain rfl:j = js.length:=by omega
    simp -dsimp [wi]
    exact Back_of (i + 1) [3,4,5,6,7,9,10,11,12] [(192,192),(256,256),(320,320),(448,448)] rfl rfl (by simp) (by omega) (by omega)
  have cL:=f29_ok x F.xo (nth js j)
  have lL:=upsR_len x (nth js j)
  have nej:=ne i h1 j h2
  simp -dsimp [h2,ne_of_lt h2]
  repeat (first|refine ⟨by omega,?_⟩|refine ⟨by simp [capMax];omega,?_⟩|refine ⟨⟨by omega,by omega⟩,?_⟩)
  refine ACallK_of (cL) ?_
  clear cL
  generalize upsR x (nth js j) = ls at *
  simp -dsimp
  refine AWh_loop (fun n:Nat => n ≤ ls.length) (fun n => mkE [(3,.box 192 0),(4,.box 256 0),(5,.box 320 0),(6,.c (.int .i64 p)),(7,.box 448 0),(9,.c (.im js.length (flat js))),(10,.c (.im us.length (flat us))),(11,.c (.im ms.length (flat ms))),(12,.c (.int .i64 i)),(16,.c (.int .i64 j)),(17,.c (.im ls.length (flat ls))),(18,.c (.int .i64 n))] [(192,.box [.c (.im g.commits.length (flat g.commits)),.c (.int .i64 q)]),(256,.box [.c (.im h.commits.length (flat h.commits)),.c (.int .i64 a)]),(320,.box [.c (.im x.commits.length (flat x.commits)),.c (.int .i64 x.head)]),(448,.box [.c (.im y.commits.length (flat y.commits)),.c (.int .i64 m)])]) (fun n => ls.length - n) 0 (Wk_to [3,4,5,6,7,9,10,11,12,16,17,18] [(192,192),(256,256),(320,320),(448,448)] rfl rfl (by simp)) (by simp) ?_
  rintro n hn
  refine AW_of h4 TryzT_ok (by kernel_rfl) ?_
  have wn:IntKind.i64.wrap ((n:Int) + 1) = n + 1:=wrap64 (by omega) (by omega)
  rcases Nat.lt_or_ge n ls.length with h3 | h3
  rotate_left
  · obtain rfl:n = ls.length:=by omega
    simp -dsimp [wj]
    exact Back_of (j + 1) [3,4,5,6,7,9,10,11,12,16] [(192,192),(256,256),(320,320),(448,448)] rfl rfl (by simp) (by omega) (by omega)
  by_cases e:j = i
  · have eb:((j:Int) != (i:Int)) = false:=by simp [e]
    simp -dsimp [h3,eb,ne_of_lt h3,wn]
    repeat (first|refine ⟨by omega,?_⟩|refine ⟨by simp [capMax];omega,?_⟩|refine ⟨⟨by omega,by omega⟩,?_⟩)
    exact Back_of (n + 1) [3,4,5,6,7,9,10,11,12,16,17,18] [(192,192),(256,256),(320,320),(448,448)] rfl rfl (by simp) (by omega) (by omega)
  · have e2:nth ls n ≠ nth js i:=nej e n h3
    have eb:((j:Int) != (i:Int)) = true:=by simp; omega
    have eb2:(nth ls n == nth js i) = false:=by simp [e2]
    simp -dsimp [h1,h3,eb,eb2,ne_of_lt h1,ne_of_lt h3,wn]
    repeat (first|refine ⟨by omega,?_⟩|refine ⟨by simp [capMax];omega,?_⟩|refine ⟨⟨by omega,by omega⟩,?_⟩)
    exact Back_of (n + 1) [3,4,5,6,7,9,10,11,12,16,17,18] [(192,192),(256,256),(320,320),(448,448)] rfl rfl (by simp) (by omega) (by omega)
end Am
