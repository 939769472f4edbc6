/- What changed: of both. No condition. -/
import Derived.Test.YtjbbhccphedkfaaGreatT
import Derived.Test.YtjbbhccphedkfaaGreatD
import Derived.Test.YtjbbhccphedkfaaGreatE59
import Derived.Test.YtjbbhccphedkfaaGreatAm31
import Derived.Test.YtjbbhccphedkfaaGreatE2
import Derived.Test.YtjbbhccphedkfaaGreatE7
import Derived.Test.YtjbbhccphedkfaaGreatAm29
import Derived.Test.YtjbbhccphedkfaaGreatV4
import Derived.Test.YtjbbhccphedkfaaGreatE51
set_option linter.unusedSimpArgs false
set_option linter.unusedVariables false
set_option linter.unnecessarySimpa false
set_option linter.unusedSectionVars false
namespace Am
open Go Go.Proofs
open Cel (cells)
set_option maxRecDepth 100000
def deadK (c:GState) (l:List GLive):Nat → List GDot
  | 0 => []
  | n + 1 => if hasX c.lives (nth l n) = true then deadK c l n else deadK c l n ++ [(nth l n).dot]
theorem deadK_len (c:GState) (l:List GLive):∀ n,(deadK c l n).length ≤ n
  | 0 => by simp [deadK]
  | n + 1 => by
    have:=deadK_len c l n
    simp only [deadK]; split
    · omega
    · simp; omega
def newC (p:GState) (x:GCell):Bool:=decide (cellAt p.cs x.dot < 0) || (x.gone && !(nth p.cs (cellAt p.cs x.dot).toNat).gone)
def dTal (p c:GState) (i:Nat):List GTally:=filK (more p.know c.know) [] c.tallies i
def dLivs (p c:GState) (i:Nat):List GLive:=filK (newB p) [] c.lives i
def dCels (p c:GState) (i:Nat):List GCell:=filK (newC p) [] c.cs i
def deltaRaw (p c:GState):GDelta:=⟨p.know,c.know,dTal p c c.tallies.length,dLivs p c c.lives.length,deadK c p.lives p.lives.length,dCels p c c.cs.length⟩
def noDelta:GDelta:=⟨[],[],[],[],[],[]⟩
def deltaOf (p c:GState):GDelta × Bool:=if behind p c = true then (deltaRaw p c,true) else (noDelta,false)
theorem dTal_len (p c:GState) (i:Nat):(dTal p c i).length ≤ i:=by have:=filK_len (more p.know c.know) [] c.tallies i; simpa [dTal] using this
theorem dLivs_len (p c:GState) (i:Nat):(dLivs p c i).length ≤ i:=by have:=filK_len (newB p) [] c.lives i; simpa [dLivs] using this
theorem dCels_len (p c:GState) (i:Nat):(dCels p c i).length ≤ i:=by have:=filK_len (newC p) [] c.cs i; simpa [dCels] using this
theorem behind_ok {a b:GState} (h:behind a b = true):stateOk a = true ∧ stateOk b = true:=by
  simp only [behind,Bool.and_eq_true] at h; exact ⟨h.1,h.2.1⟩
@[simp] def h164:Hts:={ merge:=fun _ => false,mergeF:=fun _ => false,dr:=fun id => if id = 3 then [{ cr:=true,mb:=[22,6] },{ mb:=[18,22,6] },{ mb:=[18,22,6] },{ wr:=[1152],cr:=true,mb:=[22,6] },{ mn:=[1152],cr:=true,mb:=[18,21,6] },{ mn:=[1152],mb:=[18,21,22,6] },{ mn:=[1152],mb:=[18,21,22,6] },{ wr:=[1408],cr:=true,mb:=[6] },{ mb:=[6] },{ mn:=[1152,1408],cr:=true,mb:=[18,21,22,25] },{ wr:=[384] }] else if id = 8 then [{},{},{},{},{},{},{},{},{},{},{}] else if id = 9 then [{ mb:=[58] },{ mb:=[58] },{},{},{},{},{},{ cr:=true },{ wr:=[3328,900003],cr:=true },{},{ wr:=[384] }] else if id = 13 then [{},{},{},{},{},{},{},{},{ cr:=true },{}] else if id = 14 then [{ mb:=[85] },{ mb:=[85] },{},{},{},{},{},{ cr:=true },{ wr:=[5056,900004],cr:=true },{},{ wr:=[384] }] else if id = 18 then [{},{},{},{},{},{},{},{ cr:=true },{}] else if id = 19 then [{ mb:=[112] },{ mb:=[112] },{},{},{},{},{},{},{ cr:=true },{ wr:=[6720,900005],cr:=true },{},{ wr:=[384] }] else if id = 23 then [{},{},{},{},{},{},{},{ cr:=true },{}] else if id = 25 then [{ mb:=[156] },{ mb:=[156] },{},{},{},{},{},{ cr:=true },{ wr:=[9600,900006],cr:=true },{},{ wr:=[384] }] else [] }
set_option maxHeartbeats 8000000 in
theorem f164_ok (p c:GState) (hp:p.Ok) (hc:c.Ok):FnR Tryz.prog 164 [.agg [.im p.know.length (flat p.know),.im p.tallies.length (flat p.tallies),.im p.lives.length (flat p.lives),.im p.cs.length (flat p.cs)],.agg [.im c.know.length (flat c.know),.im c.tallies.length (flat c.tallies),.im c.lives.length (flat c.lives),.im c.cs.length (flat c.cs)]] (.tup [.agg [.ow 3 1 ((deltaOf p c).1).base.length (flat ((deltaOf p c).1).base),.ow 3 1 ((deltaOf p c).1).know.length (flat ((deltaOf p c).1).know),.ow 104 3 ((deltaOf p c).1).tallies.length (flat ((deltaOf p c).1).tallies),.ow 98 6 ((deltaOf p c).1).lives.length (flat ((deltaOf p c).1).lives),.ow 60 2 ((deltaOf p c).1).dead.length (flat ((deltaOf p c).1).dead),.ow 100 8 ((deltaOf p c).1).cs.length (flat ((deltaOf p c).1).cs)],.v (.bool ((deltaOf p c).2))]):=by
  refine FnW.of_AW TryzT_ok 0 (fn:=Tryz.f164) (by kernel_rfl) rfl (by kernel_rfl) rfl rfl rfl ?_; refine AW_of h164 TryzT_ok (by kernel_rfl) ?_
  simp -dsimp
  refine ACallK_of (f26_ok _ _ hp hc) ?_
  cases g:behind p c
  · simp -dsimp
    simp [deltaOf,g,noDelta]
  obtain ⟨okp,okc⟩:=behind_ok g
  have lp:=stateOk_len okp
  have lc:=stateOk_len okc
  have kp:=stateOk_know okp
  have kc:=stateOk_know okc
  have hr:=stateOk_reps okc
  simp only [GState.Ok] at hp hc
  simp -dsimp
  repeat (first|refine ⟨by omega,?_⟩|refine ⟨by simp [capMax];omega,?_⟩|refine ⟨⟨by omega,by omega⟩,?_⟩)
  refine AWh_loop (fun i:Nat => i ≤ c.tallies.length) (fun i => mkE [(2,.box 128 0),(3,.box 192 0),(4,.box 256 0),(6,.box 384 0),(7,.c (.int .i64 i))] [(900003,.arr 0 104 3 (dTal p c i).length (flat (dTal p c i))),(128,.box [.c (.im p.know.length (flat p.know)),.c (.im p.tallies.length (flat p.tallies)),.c (.im p.lives.length (flat p.lives)),.c (.im p.cs.length (flat p.cs))]),(192,.box [.c (.im c.know.length (flat c.know)),.c (.im c.tallies.length (flat c.tallies)),.c (.im c.lives.length (flat c.lives)),.c (.im c.cs.length (flat c.cs))]),(256,.box [.nil,.nil,.nil,.nil,.nil,.nil]),(384,.box [.arr 900001,.arr 900002,.arr 900003,.nil,.nil,.nil]),(900001,.arr 0 3 1 p.know.length (flat p.know)),(900002,.arr 0 3 1 c.know.length (flat c.know))]) (fun i => c.tallies.length - i) 0 (Wk_toA [2,3,4,6,7] [(128,128),(192,192),(256,256),(384,384),(900001,1344),(900002,1600)] [.cell 384 2 900003 104 3] rfl rfl (by simp [dTal,dLivs,dCels,deadK,filK])) (by simp) ?_
  rintro i hi
  have hal:=dTal_len p c i
  refine AW_of h164 TryzT_ok (by kernel_rfl) ?_
  rcases Nat.lt_or_ge i c.tallies.length with h1 | h1
  · have hri:=hr i h1
    have q1:(nth c.tallies i).rep.toNat < c.know.length:=by omega
    have q2:(nth c.tallies i).rep.toNat < p.know.length:=by omega
    by_cases g1:nth p.know (nth c.tallies i).rep.toNat < nth c.know (nth c.tallies i).rep.toNat
    · have hs:dTal p c (i + 1) = dTal p c i ++ [(nth c.tallies i)]:=by simp [dTal,filK,more,g1]
      simp -dsimp [h1,ne_of_lt h1,q1,q2,ne_of_lt q1,ne_of_lt q2,g1]
      repeat (first|refine ⟨by omega,?_⟩|refine ⟨by simp [capMax];omega,?_⟩|refine ⟨⟨by omega,by omega⟩,?_⟩)
      exact Back_of (i + 1) [2,3,4,6,7] [(900003,3776),(128,128),(192,192),(256,256),(384,384),(900001,900001),(900002,900002)] rfl rfl (by simp [hs]; rw [wrap64 (by omega) (by omega)]) (by omega) (by omega)
    · have hs:dTal p c (i + 1) = dTal p c i:=by simp [dTal,filK,more,g1]
      simp -dsimp [h1,ne_of_lt h1,q1,q2,ne_of_lt q1,ne_of_lt q2,g1]
      repeat (first|refine ⟨by omega,?_⟩|refine ⟨by simp [capMax];omega,?_⟩|refine ⟨⟨by omega,by omega⟩,?_⟩)
      exact Back_of (i + 1) [2,3,4,6,7] [(900003,900003),(128,128),(192,192),(256,256),(384,384),(900001,900001),(900002,900002)] rfl rfl (by simp [hs]; rw [wrap64 (by omega) (by omega)]) (by omega) (by omega)
  obtain rfl:i = c.tallies.length:=by omega
  clear hi h1
  simp -dsimp
  refine AWh_loop (fun i:Nat => i ≤ c.lives.length) (fun i => mkE [(2,.box 128 0),(3,.box 192 0),(4,.box 256 0),(6,.box 384 0),(9,.c (.int .i64 i))] [(900004,.arr 0 98 6 (dLivs p c i).length (flat (dLivs p c i))),(128,.box [.c (.im p.know.length (flat p.know)),.c (.im p.tallies.length (flat p.tallies)),.c (.im p.lives.length (flat p.lives)),.c (.im p.cs.length (flat p.cs))]),(192,.box [.c (.im c.know.length (flat c.know)),.c (.im c.tallies.length (flat c.tallies)),.c (.im c.lives.length (flat c.lives)),.c (.im c.cs.length (flat c.cs))]),(256,.box [.nil,.nil,.nil,.nil,.nil,.nil]),(384,.box [.arr 900001,.arr 900002,.arr 900003,.arr 900004,.nil,.nil]),(900001,.arr 0 3 1 p.know.length (flat p.know)),(900002,.arr 0 3 1 c.know.length (flat c.know)),(900003,.arr 0 104 3 (dTal p c c.tallies.length).length (flat (dTal p c c.tallies.length)))]) (fun i => c.lives.length - i) 0 (Wk_toA [2,3,4,6,9] [(128,128),(192,192),(256,256),(384,384),(900001,900001),(900002,900002),(900003,900003)] [.cell 384 3 900004 98 6] rfl rfl (by simp [dTal,dLivs,dCels,deadK,filK])) (by simp) ?_
  rintro i hi
  have hal:=dLivs_len p c i
  refine AW_of h164 TryzT_ok (by kernel_rfl) ?_
  rcases Nat.lt_or_ge i c.lives.length with h1 | h1
  · simp -dsimp [h1,ne_of_lt h1]
    repeat (first|refine ⟨by omega,?_⟩|refine ⟨by simp [capMax];omega,?_⟩|refine ⟨⟨by omega,by omega⟩,?_⟩)
    refine ACallK_of (f67_ok _ _ hp.1) ?_
    cases g1:knows p.know (nth c.lives i).dot
    · have hs:dLivs p c (i + 1) = dLivs p c i ++ [(nth c.lives i)]:=by simp [dLivs,filK,newB,g1]
      simp -dsimp [h1,ne_of_lt h1]
      repeat (first|refine ⟨by omega,?_⟩|refine ⟨by simp [capMax];omega,?_⟩|refine ⟨⟨by omega,by omega⟩,?_⟩)
      exact Back_of (i + 1) [2,3,4,6,9] [(900004,5504),(128,128),(192,192),(256,256),(384,384),(900001,900001),(900002,900002),(900003,900003)] rfl rfl (by simp [hs]; rw [wrap64 (by omega) (by omega)]) (by omega) (by omega)
    · have hs:dLivs p c (i + 1) = dLivs p c i:=by simp [dLivs,filK,newB,g1]
      simp -dsimp [h1,ne_of_lt h1]
      repeat (first|refine ⟨by omega,?_⟩|refine ⟨by simp [capMax];omega,?_⟩|refine ⟨⟨by omega,by omega⟩,?_⟩)
      exact Back_of (i + 1) [2,3,4,6,9] [(900004,900004),(128,128),(192,192),(256,256),(384,384),(900001,900001),(900002,900002),(900003,900003)] rfl rfl (by simp [hs]; rw [wrap64 (by omega) (by omega)]) (by omega) (by omega)
  obtain rfl:i = c.lives.length:=by omega
  clear hi h1
  simp -dsimp
  refine AWh_loop (fun i:Nat => i ≤ p.lives.length) (fun i => mkE [(2,.box 128 0),(3,.box 192 0),(4,.box 256 0),(6,.box 384 0),(10,.c (.int .i64 i))] [(900005,.arr 0 60 2 (deadK c p.lives i).length (flat (deadK c p.lives i))),(128,.box [.c (.im p.know.length (flat p.know)),.c (.im p.tallies.length (flat p.tallies)),.c (.im p.lives.length (flat p.lives)),.c (.im p.cs.length (flat p.cs))]),(192,.box [.c (.im c.know.length (flat c.know)),.c (.im c.tallies.length (flat c.tallies)),.c (.im c.lives.length (flat c.lives)),.c (.im c.cs.length (flat c.cs))]),(256,.box [.nil,.nil,.nil,.nil,.nil,.nil]),(384,.box [.arr 900001,.arr 900002,.arr 900003,.arr 900004,.arr 900005,.nil]),(900001,.arr 0 3 1 p.know.length (flat p.know)),(900002,.arr 0 3 1 c.know.length (flat c.know)),(900003,.arr 0 104 3 (dTal p c c.tallies.length).length (flat (dTal p c c.tallies.length))),(900004,.arr 0 98 6 (dLivs p c c.lives.length).length (flat (dLivs p c c.lives.length)))]) (fun i => p.lives.length - i) 0 (Wk_toA [2,3,4,6,10] [(128,128),(192,192),(256,256),(384,384),(900001,900001),(900002,900002),(900003,900003),(900004,900004)] [.cell 384 4 900005 60 2] rfl rfl (by simp [dTal,dLivs,dCels,deadK,filK])) (by simp) ?_
  rintro i hi
  have hal:=deadK_len c p.lives i
  refine AW_of h164 TryzT_ok (by kernel_rfl) ?_
  rcases Nat.lt_or_ge i p.lives.length with h1 | h1
  · simp -dsimp [h1,ne_of_lt h1]
    repeat (first|refine ⟨by omega,?_⟩|refine ⟨by simp [capMax];omega,?_⟩|refine ⟨⟨by omega,by omega⟩,?_⟩)
    refine ACallK_of (f94_ok _ _ hc.2.2.2.1) ?_
    cases g1:hasX c.lives (nth p.lives i)
    · have hs:deadK c p.lives (i + 1) = deadK c p.lives i ++ [(nth p.lives i).dot]:=by simp [deadK,g1]
      simp -dsimp [h1,ne_of_lt h1]
      repeat (first|refine ⟨by omega,?_⟩|refine ⟨by simp [capMax];omega,?_⟩|refine ⟨⟨by omega,by omega⟩,?_⟩)
      exact Back_of (i + 1) [2,3,4,6,10] [(900005,7232),(128,128),(192,192),(256,256),(384,384),(900001,900001),(900002,900002),(900003,900003),(900004,900004)] rfl rfl (by simp [hs]; rw [wrap64 (by omega) (by omega)]) (by omega) (by omega)
    · have hs:deadK c p.lives (i + 1) = deadK c p.lives i:=by simp [deadK,g1]
      simp -dsimp [h1,ne_of_lt h1]
      repeat (first|refine ⟨by omega,?_⟩|refine ⟨by simp [capMax];omega,?_⟩|refine ⟨⟨by omega,by omega⟩,?_⟩)
      exact Back_of (i + 1) [2,3,4,6,10] [(900005,900005),(128,128),(192,192),(256,256),(384,384),(900001,900001),(900002,900002),(900003,900003),(900004,900004)] rfl rfl (by simp [hs]; rw [wrap64 (by omega) (by omega)]) (by omega) (by omega)
  obtain rfl:i = p.lives.length:=by omega
  clear hi h1
  simp -dsimp
  refine AWh_loop (fun i:Nat => i ≤ c.cs.length) (fun i => mkE [(2,.box 128 0),(3,.box 192 0),(4,.box 256 0),(6,.box 384 0),(11,.c (.int .i64 i))] [(900006,.arr 0 100 8 (dCels p c i).length (flat (dCels p c i))),(128,.box [.c (.im p.know.length (flat p.know)),.c (.im p.tallies.length (flat p.tallies)),.c (.im p.lives.length (flat p.lives)),.c (.im p.cs.length (flat p.cs))]),(192,.box [.c (.im c.know.length (flat c.know)),.c (.im c.tallies.length (flat c.tallies)),.c (.im c.lives.length (flat c.lives)),.c (.im c.cs.length (flat c.cs))]),(256,.box [.nil,.nil,.nil,.nil,.nil,.nil]),(384,.box [.arr 900001,.arr 900002,.arr 900003,.arr 900004,.arr 900005,.arr 900006]),(900001,.arr 0 3 1 p.know.length (flat p.know)),(900002,.arr 0 3 1 c.know.length (flat c.know)),(900003,.arr 0 104 3 (dTal p c c.tallies.length).length (flat (dTal p c c.tallies.length))),(900004,.arr 0 98 6 (dLivs p c c.lives.length).length (flat (dLivs p c c.lives.length))),(900005,.arr 0 60 2 (deadK c p.lives p.lives.length).length (flat (deadK c p.lives p.lives.length)))]) (fun i => c.cs.length - i) 0 (Wk_toA [2,3,4,6,11] [(128,128),(192,192),(256,256),(384,384),(900001,900001),(900002,900002),(900003,900003),(900004,900004),(900005,900005)] [.cell 384 5 900006 100 8] rfl rfl (by simp [dTal,dLivs,dCels,deadK,filK])) (by simp) ?_
  rintro i hi
  have hal:=dCels_len p c i
  refine AW_of h164 TryzT_ok (by kernel_rfl) ?_
  rcases Nat.lt_or_ge i c.cs.length with h1 | h1
  · simp -dsimp [h1,ne_of_lt h1]
    repeat (first|refine ⟨by omega,?_⟩|refine ⟨by simp [capMax];omega,?_⟩|refine ⟨⟨by omega,by omega⟩,?_⟩)
    refine ACallK_of (f68_ok _ _ hp.2.2.2.2.2.1) ?_
    rcases cellAt_cases p.cs (nth c.cs i).dot with g1 | ⟨j,hj,g1⟩
    · have hs:dCels p c (i + 1) = dCels p c i ++ [(nth c.cs i)]:=by simp [dCels,filK,newC,g1]
      rw [g1]
      simp -dsimp [h1,ne_of_lt h1]
      repeat (first|refine ⟨by omega,?_⟩|refine ⟨by simp [capMax];omega,?_⟩|refine ⟨⟨by omega,by omega⟩,?_⟩)
      exact Back_of (i + 1) [2,3,4,6,11] [(900006,10048),(128,128),(192,192),(256,256),(384,384),(900001,900001),(900002,900002),(900003,900003),(900004,900004),(900005,900005)] rfl rfl (by simp [hs]; rw [wrap64 (by omega) (by omega)]) (by omega) (by omega)
    · rw [g1]
      have jn:¬ (j:Int) < 0:=by omega
      cases g2:(nth c.cs i).gone
      · have hs:dCels p c (i + 1) = dCels p c i:=by simp [dCels,filK,newC,g1,g2,jn]
        simp -dsimp [h1,ne_of_lt h1,jn,hj,ne_of_lt hj,g2]
        repeat (first|refine ⟨by omega,?_⟩|refine ⟨by simp [capMax];omega,?_⟩|refine ⟨⟨by omega,by omega⟩,?_⟩)
        exact Back_of (i + 1) [2,3,4,6,11] [(900006,900006),(128,128),(192,192),(256,256),(384,384),(900001,900001),(900002,900002),(900003,900003),(900004,900004),(900005,900005)] rfl rfl (by simp [hs]; rw [wrap64 (by omega) (by omega)]) (by omega) (by omega)
      · cases g3:(nth p.cs j).gone
        · have he:(nth c.cs i) = ⟨(nth c.cs i).obj,(nth c.cs i).dot,(nth c.cs i).time,(nth c.cs i).ref,(nth c.cs i).val,true⟩:=by rw [← g2]
          have hs:dCels p c (i + 1) = dCels p c i ++ [⟨(nth c.cs i).obj,(nth c.cs i).dot,(nth c.cs i).time,(nth c.cs i).ref,(nth c.cs i).val,true⟩]:=by rw [← he]; simp [dCels,filK,newC,g1,g2,g3,jn]
          clear he
          simp -dsimp [h1,ne_of_lt h1,jn,hj,ne_of_lt hj,g2,g3]
          repeat (first|refine ⟨by omega,?_⟩|refine ⟨by simp [capMax];omega,?_⟩|refine ⟨⟨by omega,by omega⟩,?_⟩)
          exact Back_of (i + 1) [2,3,4,6,11] [(900006,10048),(128,128),(192,192),(256,256),(384,384),(900001,900001),(900002,900002),(900003,900003),(900004,900004),(900005,900005)] rfl rfl (by simp [hs]; rw [wrap64 (by omega) (by omega)]) (by omega) (by omega)
        · have hs:dCels p c (i + 1) = dCels p c i:=by simp [dCels,filK,newC,g1,g2,g3,jn]
          simp -dsimp [h1,ne_of_lt h1,jn,hj,ne_of_lt hj,g2,g3]
          repeat (first|refine ⟨by omega,?_⟩|refine ⟨by simp [capMax];omega,?_⟩|refine ⟨⟨by omega,by omega⟩,?_⟩)
          exact Back_of (i + 1) [2,3,4,6,11] [(900006,900006),(128,128),(192,192),(256,256),(384,384),(900001,900001),(900002,900002),(900003,900003),(900004,900004),(900005,900005)] rfl rfl (by simp [hs]; rw [wrap64 (by omega) (by omega)]) (by omega) (by omega)
  obtain rfl:i = c.cs.length:=by omega
  clear hi h1
  simp -dsimp
  simp [deltaOf,g,deltaRaw]
end Am
namespace Am
open Go Go.Proofs
open Cel (cells)
set_option maxRecDepth 100000
def dLiv (d:GDelta) (i:Nat):Bool:=knows d.know (nth d.lives i).dot && !knows d.base (nth d.lives i).dot
def dDead (d:GDelta) (i:Nat):Bool:=knows d.base (nth d.dead i)
def dCel (d:GDelta) (i:Nat):Bool:=knows d.know (nth d.cs i).dot
def deltaOkS (d:GDelta):Bool:=knowIn d.base d.know && talliesOk d.tallies && livsOk d.lives && celsOk d.cs && dotsOk d.dead &&
  allB (dLiv d) d.lives.length && allB (dDead d) d.dead.length && allB (dCel d) d.cs.length
def eLiv (d:GDelta) (i:Nat):Bool:=!knows d.base (nth d.lives i).dot
def eDead (d:GDelta) (i:Nat):Bool:=knows d.base (nth d.dead i) && (decide (i = 0) || before (nth d.dead (i - 1)) (nth d.dead i))
def eCel (d:GDelta) (i:Nat):Bool:=((nth d.cs i).ref.rep == 0 && (nth d.cs i).ref.seq == 0) || dotOk (nth d.cs i).ref
def deltaOk (d:GDelta):Bool:=knowIn d.base d.know && talliesOk d.tallies && livKsOk d.lives d.know && celKsOk d.cs d.know && decide (d.dead.length ≤ 120) &&
  allB (eLiv d) d.lives.length && allB (eDead d) d.dead.length && allB (eCel d) d.cs.length
theorem deltaOkS_eq (d:GDelta):deltaOkS d = deltaOk d:=by
  rw [Bool.eq_iff_iff]
  simp only [deltaOkS,deltaOk,livsOk,livKsOk,celsOk,celKsOk,dotsOk,dLiv,dDead,dCel,eLiv,eDead,eCel,livAt,livKAt,celAt,celKAt,Bool.and_eq_true,allB_iff,decide_eq_true_eq,Bool.or_eq_true,Bool.not_eq_true',knows]
  grind
@[simp] def h19:Hts:={ merge:=fun _ => false,mergeF:=fun _ => false,dr:=fun id => if id = 6 then [{},{},{},{},{},{},{},{},{ cr:=true },{},{},{},{},{},{},{},{},{},{},{ cr:=true },{}] else if id = 11 then [{},{},{},{},{},{},{},{ cr:=true },{}] else if id = 16 then [{},{},{},{},{},{},{},{},{ cr:=true },{}] else [] }
set_option maxHeartbeats 4000000 in
theorem f19_ok (d:GDelta) (hd:d.Ok):FnR Tryz.prog 19 [.agg [.im d.base.length (flat d.base),.im d.know.length (flat d.know),.im d.tallies.length (flat d.tallies),.im d.lives.length (flat d.lives),.im d.dead.length (flat d.dead),.im d.cs.length (flat d.cs)]] (.v (.bool (deltaOkS d))):=by
  simp only [GDelta.Ok] at hd
  obtain ⟨o0,o1,o2,o3,o4,o5,o6,o7,o8⟩:=hd
  refine FnW.of_AW TryzT_ok 0 (fn:=Tryz.f19) (by kernel_rfl) rfl (by kernel_rfl) rfl rfl rfl ?_; refine AW_of h19 TryzT_ok (by kernel_rfl) ?_
  simp -dsimp
  refine ACallK_of (f70_ok _ _ o0 o1) ?_
  cases g1:knowIn d.base d.know
  · simp -dsimp [g1]
    simp [deltaOkS,g1]
  simp -dsimp [g1]
  refine ACallK_of (f64_ok _ o2 o3) ?_
  cases g2:talliesOk d.tallies
  · simp -dsimp [g2]
    simp [deltaOkS,g2]
  simp -dsimp [g2]
  refine ACallK_of (f65_ok _ o4 o5) ?_
  cases g3:livsOk d.lives
  · simp -dsimp [g3]
    simp [deltaOkS,g3]
  simp -dsimp [g3]
  refine ACallK_of (f66_ok _ o7 o8) ?_
  cases g4:celsOk d.cs
  · simp -dsimp [g4]
    simp [deltaOkS,g4]
  simp -dsimp [g4]
  refine ACallK_of (f71_ok _ o6) ?_
  cases g5:dotsOk d.dead
  · simp -dsimp [g5]
    simp [deltaOkS,g5]
  simp -dsimp [g5]
  refine AWh_loop (fun i:Nat => i ≤ d.lives.length ∧ allB (dLiv d) i = true) (fun i => mkE [(1,.box 64 0),(3,.c (.int .i64 i))] [(64,.box [.c (.im d.base.length (flat d.base)),.c (.im d.know.length (flat d.know)),.c (.im d.tallies.length (flat d.tallies)),.c (.im d.lives.length (flat d.lives)),.c (.im d.dead.length (flat d.dead)),.c (.im d.cs.length (flat d.cs))])]) (fun i => d.lives.length - i) 0 (Wk_to [1,3] [(64,64)] rfl rfl (by simp)) (by simp [allB]) ?_
  rintro i ⟨hi,a1⟩
  refine AW_of h19 TryzT_ok (by kernel_rfl) ?_
  rcases Nat.lt_or_ge i d.lives.length with h1 | h1
  · simp -dsimp [h1,ne_of_lt h1]
    refine ⟨by omega,?_⟩
    refine ACallK_of (f67_ok _ _ o1) ?_
    cases k1:knows d.know (nth d.lives i).dot
    · simp -dsimp [h1]
      simp [deltaOkS,allB_false h1 (show dLiv d i = false by simp [dLiv,k1])]
    simp -dsimp [h1,ne_of_lt h1,k1]
    repeat (first | refine ⟨by omega,?_⟩ | refine ⟨⟨by omega,by omega⟩,?_⟩)
    refine ACallK_of (f67_ok _ _ o0) ?_
    cases k2:knows d.base (nth d.lives i).dot
    · simp -dsimp [h1]
      exact Back_of (i + 1) [1,3] [(64,64)] rfl rfl (by simp; rw [wrap64 (by omega) (by omega)]) ⟨by omega,allB_succ a1 (by simp [dLiv,k1,k2])⟩ (by omega)
    · simp -dsimp [h1]
      simp [deltaOkS,allB_false h1 (show dLiv d i = false by simp [dLiv,k1,k2])]
  · simp -dsimp [Nat.not_lt.2 h1]
    obtain rfl:i = d.lives.length:=by omega
    refine AWh_loop (fun i:Nat => i ≤ d.dead.length ∧ allB (dDead d) i = true) (fun i => mkE [(1,.box 64 0),(4,.c (.int .i64 i))] [(64,.box [.c (.im d.base.length (flat d.base)),.c (.im d.know.length (flat d.know)),.c (.im d.tallies.length (flat d.tallies)),.c (.im d.lives.length (flat d.lives)),.c (.im d.dead.length (flat d.dead)),.c (.im d.cs.length (flat d.cs))])]) (fun i => d.dead.length - i) 0 (Wk_to [1,4] [(64,64)] rfl rfl (by simp)) (by simp [allB]) ?_
    rintro i ⟨hi,a2⟩
    refine AW_of h19 TryzT_ok (by kernel_rfl) ?_
    rcases Nat.lt_or_ge i d.dead.length with h1 | h1
    · simp -dsimp [h1,ne_of_lt h1]
      refine ⟨by omega,?_⟩
      refine ACallK_of (f67_ok _ _ o0) ?_
      cases k1:knows d.base (nth d.dead i)
      · simp -dsimp [h1]
        simp [deltaOkS,allB_false h1 (show dDead d i = false by simp [dDead,k1])]
      · simp -dsimp [h1]
        exact Back_of (i + 1) [1,4] [(64,64)] rfl rfl (by simp; rw [wrap64 (by omega) (by omega)]) ⟨by omega,allB_succ a2 (by simp [dDead,k1])⟩ (by omega)
    · simp -dsimp [Nat.not_lt.2 h1]
      obtain rfl:i = d.dead.length:=by omega
      refine AWh_loop (fun i:Nat => i ≤ d.cs.length ∧ allB (dCel d) i = true) (fun i => mkE [(1,.box 64 0),(5,.c (.int .i64 i))] [(64,.box [.c (.im d.base.length (flat d.base)),.c (.im d.know.length (flat d.know)),.c (.im d.tallies.length (flat d.tallies)),.c (.im d.lives.length (flat d.lives)),.c (.im d.dead.length (flat d.dead)),.c (.im d.cs.length (flat d.cs))])]) (fun i => d.cs.length - i) 0 (Wk_to [1,5] [(64,64)] rfl rfl (by simp)) (by simp [allB]) ?_
      rintro i ⟨hi,a3⟩
      refine AW_of h19 TryzT_ok (by kernel_rfl) ?_
      rcases Nat.lt_or_ge i d.cs.length with h1 | h1
      · simp -dsimp [h1,ne_of_lt h1]
        refine ⟨by omega,?_⟩
        refine ACallK_of (f67_ok _ _ o1) ?_
        cases k1:knows d.know (nth d.cs i).dot
        · simp -dsimp [h1]
          simp [deltaOkS,allB_false h1 (show dCel d i = false by simp [dCel,k1])]
        · simp -dsimp [h1]
          exact Back_of (i + 1) [1,5] [(64,64)] rfl rfl (by simp; rw [wrap64 (by omega) (by omega)]) ⟨by omega,allB_succ a3 (by simp [dCel,k1])⟩ (by omega)
      · simp -dsimp [Nat.not_lt.2 h1]
        obtain rfl:i = d.cs.length:=by omega
        simp [deltaOkS,g1,g2,g3,g4,g5,a1,a2,a3]
@[simp] def h46:Hts:={ merge:=fun _ => false,mergeF:=fun _ => false,dr:=fun id => if id = 12 then [{},{},{},{ cr:=true },{},{},{},{},{},{},{},{},{},{},{},{},{ cr:=true },{},{},{}] else [] }
set_option maxHeartbeats 4000000 in
theorem f46_ok (d:GDelta) (hd:d.Ok):FnR Tryz.prog 46 [.agg [.im d.base.length (flat d.base),.im d.know.length (flat d.know),.im d.tallies.length (flat d.tallies),.im d.lives.length (flat d.lives),.im d.dead.length (flat d.dead),.im d.cs.length (flat d.cs)]] (.v (.bool (deltaOk d))):=by
  simp only [GDelta.Ok] at hd
  obtain ⟨o0,o1,o2,o3,o4,o5,o6,o7,o8⟩:=hd
  refine FnW.of_AW TryzT_ok 0 (fn:=Tryz.f46) (by kernel_rfl) rfl (by kernel_rfl) rfl rfl rfl ?_; refine AW_of h46 TryzT_ok (by kernel_rfl) ?_
  simp -dsimp
  refine ACallK_of (f112_ok _ _ o0 o1) ?_
  cases g1:knowIn d.base d.know
  · simp -dsimp [g1]
    simp [deltaOk,g1]
  simp -dsimp [g1]
  refine ACallK_of (f98_ok _ o2 o3) ?_
  cases g2:talsOk d.tallies
  · simp -dsimp [g2]
    simp [deltaOk,show talliesOk d.tallies = false from g2]
  simp -dsimp [g2]
  refine ACallK_of (f99_ok _ _ o4 o1 o5) ?_
  cases g3:livKsOk d.lives d.know
  · simp -dsimp [g3]
    simp [deltaOk,g3]
  simp -dsimp [g3]
  refine ACallK_of (f100_ok _ _ o7 o1 o8) ?_
  cases g4:celKsOk d.cs d.know
  · simp -dsimp [g4]
    simp [deltaOk,g4]
  rcases Nat.lt_or_ge 120 d.dead.length with g5 | g5
  · have g5':¬ d.dead.length ≤ 120:=by omega
    have g5i:(120:Int) < d.dead.length:=by omega
    simp -dsimp [g4,g5i]
    simp [deltaOk,g5,g5']
  have g5i:¬ (120:Int) < d.dead.length:=by omega
  have g5j:(d.dead.length:Int) ≤ 120:=by omega
  simp -dsimp [g4,g5i,g5j]
  have g2':talliesOk d.tallies = true:=g2
  refine AWh_loop (fun i:Nat => i ≤ d.lives.length ∧ allB (eLiv d) i = true) (fun i => mkE [(1,.box 64 0),(44,.c (.im d.lives.length (flat d.lives))),(45,.c (.int .i64 d.lives.length)),(46,.c (.int .i64 i))] [(64,.box [.c (.im d.base.length (flat d.base)),.c (.im d.know.length (flat d.know)),.c (.im d.tallies.length (flat d.tallies)),.c (.im d.lives.length (flat d.lives)),.c (.im d.dead.length (flat d.dead)),.c (.im d.cs.length (flat d.cs))])]) (fun i => d.lives.length - i) 0 (Wk_to [1,44,45,46] [(64,64)] rfl rfl (by simp)) (by simp [allB]) ?_
  rintro i ⟨hi,a1⟩
  refine AW_of h46 TryzT_ok (by kernel_rfl) ?_
  rcases Nat.lt_or_ge i d.lives.length with h1 | h1
  · simp -dsimp [h1,ne_of_lt h1]
    repeat (first | refine ⟨by omega,?_⟩ | refine ⟨⟨by omega,by omega⟩,?_⟩)
    refine ACallK_of (f113_ok _ _ o0) ?_
    cases k1:knows d.base (nth d.lives i).dot
    · simp -dsimp [h1]
      exact Back_of (i + 1) [1,44,45,46] [(64,64)] rfl rfl (by simp; rw [wrap64 (by omega) (by omega)]) ⟨by omega,allB_succ a1 (by simp [eLiv,k1])⟩ (by omega)
    · simp -dsimp [h1]
      simp [deltaOk,allB_false h1 (show eLiv d i = false by simp [eLiv,k1])]
  · simp -dsimp [Nat.not_lt.2 h1]
    obtain rfl:i = d.lives.length:=by omega
    refine AWh_loop (fun i:Nat => i ≤ d.dead.length ∧ allB (eDead d) i = true) (fun i => mkE [(1,.box 64 0),(57,.c (.im d.dead.length (flat d.dead))),(58,.c (.int .i64 d.dead.length)),(59,.c (.int .i64 i))] [(64,.box [.c (.im d.base.length (flat d.base)),.c (.im d.know.length (flat d.know)),.c (.im d.tallies.length (flat d.tallies)),.c (.im d.lives.length (flat d.lives)),.c (.im d.dead.length (flat d.dead)),.c (.im d.cs.length (flat d.cs))])]) (fun i => d.dead.length - i) 0 (Wk_to [1,57,58,59] [(64,64)] rfl rfl (by simp)) (by simp [allB]) ?_
    rintro i ⟨hi,a2⟩
    refine AW_of h46 TryzT_ok (by kernel_rfl) ?_
    rcases Nat.lt_or_ge i d.dead.length with h1 | h1
    · rcases Nat.eq_zero_or_pos i with hz | hz
      · have hz':¬ 0 < i:=by omega
        simp -dsimp [h1,ne_of_lt h1,hz']
        repeat (first | refine ⟨by omega,?_⟩ | refine ⟨⟨by omega,by omega⟩,?_⟩)
        refine ACallK_of (f113_ok _ _ o0) ?_
        cases k1:knows d.base (nth d.dead i)
        · simp -dsimp [h1]
          simp [deltaOk,allB_false h1 (show eDead d i = false by simp [eDead,k1])]
        · simp -dsimp [h1,hz',k1]
          exact Back_of (i + 1) [1,57,58,59] [(64,64)] rfl rfl (by simp; rw [wrap64 (by omega) (by omega)]) ⟨by omega,allB_succ a2 (by subst hz; simp [eDead,k1])⟩ (by omega)
      · have w:IntKind.i64.wrap ((i:Int) - 1) = i - 1:=wrap64 (by omega) (by omega)
        have t1:((i:Int) - 1).toNat = i - 1:=by omega
        have h3:i - 1 < d.dead.length:=by omega
        have hn:¬ i = 0:=by omega
        simp -dsimp [h1,ne_of_lt h1,hz,w,t1,h3]
        repeat (first | refine ⟨by omega,?_⟩ | refine ⟨⟨by omega,by omega⟩,?_⟩)
        refine ACallK_of (f113_ok _ _ o0) ?_
        cases k1:knows d.base (nth d.dead i)
        · simp -dsimp [h1]
          simp [deltaOk,allB_false h1 (show eDead d i = false by simp [eDead,k1])]
        simp -dsimp [h1,ne_of_lt h1,hz,w,t1,h3,k1]
        repeat (first | refine ⟨by omega,?_⟩ | refine ⟨⟨by omega,by omega⟩,?_⟩)
        refine ACallK_of (f114_ok _ _) ?_
        simp -dsimp [h1,ne_of_lt h1,hz,w,t1,h3,k1]
        refine ⟨fun h => ?_,fun h => ?_⟩
        · simp [deltaOk,allB_false h1 (show eDead d i = false by simp [eDead,hn,k1,show before (nth d.dead (i - 1)) (nth d.dead i) = false by rw [before_cmp]; simpa using h])]
        · exact Back_of (i + 1) [1,57,58,59] [(64,64)] rfl rfl (by simp; rw [wrap64 (by omega) (by omega)]) ⟨by omega,allB_succ a2 (by simp [eDead,k1,hn,show before (nth d.dead (i - 1)) (nth d.dead i) = true by rw [before_cmp]; simpa using h])⟩ (by omega)
    · simp -dsimp [Nat.not_lt.2 h1]
      obtain rfl:i = d.dead.length:=by omega
      refine AWh_loop (fun i:Nat => i ≤ d.cs.length ∧ allB (eCel d) i = true) (fun i => mkE [(86,.c (.im d.cs.length (flat d.cs))),(87,.c (.int .i64 d.cs.length)),(88,.c (.int .i64 i))] []) (fun i => d.cs.length - i) 0 (Wk_to [86,87,88] [] rfl rfl (by simp)) (by simp [allB]) ?_
      rintro i ⟨hi,a3⟩
      refine AW_of h46 TryzT_ok (by kernel_rfl) ?_
      rcases Nat.lt_or_ge i d.cs.length with h1 | h1
      · rcases bne_cases (nth d.cs i).ref.rep with ⟨r1,r2⟩ | ⟨r1,r2⟩ <;> rcases bne_cases (nth d.cs i).ref.seq with ⟨q1,q2⟩ | ⟨q1,q2⟩
        · simp -dsimp [h1,ne_of_lt h1,r1,r2,q1,q2]
          repeat (first | refine ⟨by omega,?_⟩ | refine ⟨⟨by omega,by omega⟩,?_⟩)
          refine ACallK_of (f115_ok _) ?_
          cases k1:dotOk (nth d.cs i).ref
          · simp -dsimp [h1]
            simp [deltaOk,allB_false h1 (show eCel d i = false by simp [eCel,r2,q2,k1])]
          · simp -dsimp [h1]
            exact Back_of (i + 1) [86,87,88] [] rfl rfl (by simp; rw [wrap64 (by omega) (by omega)]) ⟨by omega,allB_succ a3 (by simp [eCel,r2,q2,k1])⟩ (by omega)
        · simp -dsimp [h1,ne_of_lt h1,r1,r2,q1,q2]
          repeat (first | refine ⟨by omega,?_⟩ | refine ⟨⟨by omega,by omega⟩,?_⟩)
          refine ACallK_of (f115_ok _) ?_
          cases k1:dotOk (nth d.cs i).ref
          · simp -dsimp [h1]
            simp [deltaOk,allB_false h1 (show eCel d i = false by simp [eCel,r2,q2,k1])]
          · simp -dsimp [h1]
            exact Back_of (i + 1) [86,87,88] [] rfl rfl (by simp; rw [wrap64 (by omega) (by omega)]) ⟨by omega,allB_succ a3 (by simp [eCel,r2,q2,k1])⟩ (by omega)
        · simp -dsimp [h1,ne_of_lt h1,r1,r2,q1,q2]
          repeat (first | refine ⟨by omega,?_⟩ | refine ⟨⟨by omega,by omega⟩,?_⟩)
          refine ACallK_of (f115_ok _) ?_
          cases k1:dotOk (nth d.cs i).ref
          · simp -dsimp [h1]
            simp [deltaOk,allB_false h1 (show eCel d i = false by simp [eCel,r2,q2,k1])]
          · simp -dsimp [h1]
            exact Back_of (i + 1) [86,87,88] [] rfl rfl (by simp; rw [wrap64 (by omega) (by omega)]) ⟨by omega,allB_succ a3 (by simp [eCel,r2,q2,k1])⟩ (by omega)
        · simp -dsimp [h1,ne_of_lt h1,r1,r2,q1,q2]
          repeat (first | refine ⟨by omega,?_⟩ | refine ⟨⟨by omega,by omega⟩,?_⟩)
          exact Back_of (i + 1) [86,87,88] [] rfl rfl (by simp; rw [wrap64 (by omega) (by omega)]) ⟨by omega,allB_succ a3 (by simp [eCel,r2,q2])⟩ (by omega)
      · simp -dsimp [Nat.not_lt.2 h1]
        obtain rfl:i = d.cs.length:=by omega
        simp [deltaOk,g1,g2',g3,g4,g5,a1,a2,a3]
end Am
namespace Am
open Go Go.Proofs Go.Sort
open Cel (cells)
set_option maxRecDepth 100000
end Am
namespace Am
open Go
end Am
namespace Am
open Go
theorem deltaOf_ok {p c:GState} (hp:p.Ok) (hc:c.Ok):(deltaOf p c).1.Ok:=by
  unfold deltaOf
  split
  · simp only [GState.Ok] at hp hc
    simp only [GDelta.Ok]
    have h1:=dTal_len p c c.tallies.length
    have h2:=dLivs_len p c c.lives.length
    have h3:=deadK_len c p.lives p.lives.length
    have h4:=dCels_len p c c.cs.length
    refine ⟨hp.1,hc.1,?_,?_,?_,?_,?_,?_,?_⟩
    · simp only [deltaRaw]; omega
    · intro y hy
      rcases (filK_mem (Nat.le_refl _)).1 hy with h | ⟨i,hi,rfl,_⟩
      · cases h
      · exact hc.2.2.1 _ (nth_mem hi)
    · simp only [deltaRaw]; omega
    · intro y hy
      rcases (filK_mem (Nat.le_refl _)).1 hy with h | ⟨i,hi,rfl,_⟩
      · cases h
      · exact hc.2.2.2.2.1 _ (nth_mem hi)
    · simp only [deltaRaw]; omega
    · simp only [deltaRaw]; omega
    · intro y hy
      rcases (filK_mem (Nat.le_refl _)).1 hy with h | ⟨i,hi,rfl,_⟩
      · cases h
      · exact hc.2.2.2.2.2.2 _ (nth_mem hi)
  · simp [noDelta,GDelta.Ok]
end Am
namespace Am
open Go Go.Proofs
open Cel (cells)
set_option maxRecDepth 100000
@[simp] def h110:Hts:={ dr:=fun id => if id = 1 then [{ cr:=true,mb:=[7,11,15,19,23] },{ mb:=[3,7,11,15,19,23] },{ mb:=[3,7,11,15,19,23] },{ wr:=[192],cr:=true,mb:=[7,11,15,19,23] },{ mn:=[192],cr:=true,mb:=[3,6,11,15,19,23] },{ mn:=[192],mb:=[3,6,7,11,15,19,23] },{ mn:=[192],mb:=[3,6,7,11,15,19,23] },{ wr:=[448],cr:=true,mb:=[11,15,19,23] },{ mn:=[192,448],cr:=true,mb:=[3,6,7,10,15,19,23] },{ mn:=[192,448],mb:=[3,6,7,10,11,15,19,23] },{ mn:=[192,448],mb:=[3,6,7,10,11,15,19,23] },{ wr:=[704],cr:=true,mb:=[15,19,23] },{ mn:=[192,448,704],cr:=true,mb:=[3,6,7,10,11,14,19,23] },{ mn:=[192,448,704],mb:=[3,6,7,10,11,14,15,19,23] },{ mn:=[192,448,704],mb:=[3,6,7,10,11,14,15,19,23] },{ wr:=[960],cr:=true,mb:=[19,23] },{ mn:=[192,448,704,960],cr:=true,mb:=[3,6,7,10,11,14,15,18,23] },{ mn:=[192,448,704,960],mb:=[3,6,7,10,11,14,15,18,19,23] },{ mn:=[192,448,704,960],mb:=[3,6,7,10,11,14,15,18,19,23] },{ wr:=[1216],cr:=true,mb:=[23] },{ mn:=[192,448,704,960,1216],cr:=true,mb:=[3,6,7,10,11,14,15,18,19,22] },{ mn:=[192,448,704,960,1216],mb:=[3,6,7,10,11,14,15,18,19,22,23] },{ mn:=[192,448,704,960,1216],mb:=[3,6,7,10,11,14,15,18,19,22,23] },{ wr:=[1472],cr:=true },{},{ wr:=[128] }] else [] }
set_option maxHeartbeats 1000000 in
theorem f110_ok (d:GDelta) (h:d.Ok):FnR Tryz.prog 110 [.agg [.im d.base.length (flat d.base),.im d.know.length (flat d.know),.im d.tallies.length (flat d.tallies),.im d.lives.length (flat d.lives),.im d.dead.length (flat d.dead),.im d.cs.length (flat d.cs)]] (.agg [.ow 3 1 d.base.length (flat d.base),.ow 3 1 d.know.length (flat d.know),.ow 104 3 d.tallies.length (flat d.tallies),.ow 98 6 d.lives.length (flat d.lives),.ow 60 2 d.dead.length (flat d.dead),.ow 100 8 d.cs.length (flat d.cs)]):=by
  simp only [GDelta.Ok] at h
  obtain ⟨o0,o1,o2,o3,o4,o5,o6,o7,o8⟩:=h
  refine FnW.of_AW TryzT_ok 0 (fn:=Tryz.f110) (by kernel_rfl) rfl (by kernel_rfl) rfl rfl rfl ?_; refine AW_of h110 TryzT_ok (by kernel_rfl) ?_
  simp -dsimp
  simp [capMax]
  omega
end Am
