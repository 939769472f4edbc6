/- The text of a state,of both. No condition. -/
import Derived.Test.YtjbbhccphedkfaaGreatT
import Derived.Test.YtjbbhccphedkfaaGreatD
import Derived.Test.YtjbbhccphedkfaaGreatE14
import Derived.Test.YtjbbhccphedkfaaGreatE7
import Derived.Test.YtjbbhccphedkfaaGreatAm31
import Derived.Test.YtjbbhccphedkfaaGreatV4
import Derived.Test.YtjbbhccphedkfaaGreatE71
import Derived.Test.YtjbbhccphedkfaaGreatAm37
import Derived.Test.YtjbbhccphedkfaaGreatV13
import Derived.Test.YtjbbhccphedkfaaGreatAm32
import Derived.Test.YtjbbhccphedkfaaGreatE62
import Derived.Test.YtjbbhccphedkfaaGreatAm27
set_option linter.unusedSimpArgs false
set_option linter.unusedVariables false
set_option linter.unnecessarySimpa false
set_option linter.unusedSectionVars false
namespace Am
open Go Go.Proofs
open Cel (cells)
set_option maxRecDepth 100000
theorem stateOk_facts {s:GState} (h:stateOk s = true) :
    (s.know.length = 3 ∧ ∀ i:Nat,i < s.know.length → numOk (nth s.know i)) ∧ (s.tallies.length ≤ 120 ∧ ∀ i:Nat,i < s.tallies.length → talR (nth s.tallies i)) ∧
    (s.lives.length ≤ 120 ∧ ∀ i:Nat,i < s.lives.length → liveR (nth s.lives i)) ∧ (s.cs.length ≤ 120 ∧ ∀ i:Nat,i < s.cs.length → cellR (nth s.cs i)):=by
  have h':=h
  rw [← stateOkS_eq] at h'
  simp only [stateOk,Bool.and_eq_true] at h
  simp only [stateOkS,Bool.and_eq_true,celsOk,allB_iff,celAt] at h'
  obtain ⟨⟨⟨⟨h1,h2⟩,h3⟩,h4⟩,h5⟩:=h
  exact ⟨knowOk_facts h1,talliesOk_facts h2,livKsOk_facts h3,celKsOk_facts h4 fun i hi => refZ_R (h'.1.1.2.2 i hi).1.2⟩
def stateS (s:GState):ByteArray:=varsS s.know ++ (talsS s.tallies ++ (livesS s.lives ++ cellsS s.cs))
def stateText (s:GState):ByteArray:=if stateOk s = true then sealS (stateS s) else ⟨#[]⟩
def stateTextOk (s:GState):Bool:=stateOk s && sealOk (stateS s)
@[simp] def h51:Hts:={ dr:=fun id => if id = 3 then [{},{},{ cr:=true },{ mb:=[9] },{ mb:=[9] },{ cr:=true },{ mb:=[16,20] },{ mb:=[9,12] },{ mb:=[9,12] },{ cr:=true },{ mb:=[20] },{ mb:=[9,12,16] },{ mb:=[9,12,16] },{ cr:=true },{},{ cr:=true },{},{},{},{}] else [] }
set_option maxHeartbeats 2000000 in
theorem f51_ok (s:GState) (hd:s.Ok):FnR Tryz.prog 51 [.agg [.im s.know.length (flat s.know),.im s.tallies.length (flat s.tallies),.im s.lives.length (flat s.lives),.im s.cs.length (flat s.cs)]] (.tup [.v (.str (stateText s)),.v (.bool (stateTextOk s))]):=by
  refine FnW.of_AW TryzT_ok 0 (fn:=Tryz.f51) (by kernel_rfl) rfl (by kernel_rfl) rfl rfl rfl ?_; refine AW_of h51 TryzT_ok (by kernel_rfl) ?_
  simp -dsimp
  refine ACallK_of (f17_ok _ hd) ?_
  rw [stateOkS_eq]
  cases hk:stateOk s
  · simp -dsimp
    simp [stateText,stateTextOk,hk]
  · simp -dsimp
    obtain ⟨⟨b0,b1⟩,t,l,c⟩:=stateOk_facts hk
    have z1:=varsS_size b1
    have z3:=talsS_size t
    have z4:=livesS_size l
    have z6:=cellsS_size c
    refine ACallK_of (f116_ok _ (by omega) b1) ?_
    simp -dsimp
    repeat (first | refine ⟨by omega,?_⟩ | refine ⟨by simp [capMax,ByteArray.size_append]; omega,?_⟩)
    refine ACallK_of (f117_ok _ t.1 t.2) ?_
    simp -dsimp
    repeat (first | refine ⟨by omega,?_⟩ | refine ⟨by simp [capMax,ByteArray.size_append]; omega,?_⟩)
    refine ACallK_of (f118_ok _ l.1 l.2) ?_
    simp -dsimp
    repeat (first | refine ⟨by omega,?_⟩ | refine ⟨by simp [capMax,ByteArray.size_append]; omega,?_⟩)
    refine ACallK_of (f119_ok _ c.1 c.2) ?_
    simp -dsimp
    repeat (first | refine ⟨by omega,?_⟩ | refine ⟨by simp [capMax,ByteArray.size_append]; omega,?_⟩)
    refine ACallK_of (f54_ok _ (by simp [ByteArray.size_append]; omega)) ?_
    simp -dsimp
    simp [stateText,stateTextOk,hk,stateS,app_assoc]
@[simp] def h7:Hts:={ dr:=fun id => if id = 3 then [{},{},{ cr:=true },{ mb:=[9] },{ mb:=[9] },{ cr:=true },{ mb:=[16,20] },{ mb:=[9,12] },{ mb:=[9,12] },{ cr:=true },{ mb:=[20] },{ mb:=[9,12,16] },{ mb:=[9,12,16] },{ cr:=true },{},{ cr:=true },{},{},{},{}] else [] }
set_option maxHeartbeats 2000000 in
theorem f7_ok (s:GState) (hd:s.Ok):FnR Tryz.prog 7 [.agg [.im s.know.length (flat s.know),.im s.tallies.length (flat s.tallies),.im s.lives.length (flat s.lives),.im s.cs.length (flat s.cs)]] (.tup [.v (.str (stateText s)),.v (.bool (stateTextOk s))]):=by
  refine FnW.of_AW TryzT_ok 0 (fn:=Tryz.f7) (by kernel_rfl) rfl (by kernel_rfl) rfl rfl rfl ?_; refine AW_of h7 TryzT_ok (by kernel_rfl) ?_
  simp -dsimp
  refine ACallK_of (f34_ok _ hd) ?_
  rw [stateOkM_eq]
  cases hk:stateOk s
  · simp -dsimp
    simp [stateText,stateTextOk,hk]
  · simp -dsimp
    obtain ⟨⟨b0,b1⟩,t,l,c⟩:=stateOk_facts hk
    have z1:=varsS_size b1
    have z3:=talsS_size t
    have z4:=livesS_size l
    have z6:=cellsS_size c
    refine ACallK_of (f36_ok _ (by omega) b1) ?_
    simp -dsimp
    repeat (first | refine ⟨by omega,?_⟩ | refine ⟨by simp [capMax,ByteArray.size_append]; omega,?_⟩)
    refine ACallK_of (f37_ok _ t.1 t.2) ?_
    simp -dsimp
    repeat (first | refine ⟨by omega,?_⟩ | refine ⟨by simp [capMax,ByteArray.size_append]; omega,?_⟩)
    refine ACallK_of (f38_ok _ l.1 l.2) ?_
    simp -dsimp
    repeat (first | refine ⟨by omega,?_⟩ | refine ⟨by simp [capMax,ByteArray.size_append]; omega,?_⟩)
    refine ACallK_of (f39_ok _ c.1 c.2) ?_
    simp -dsimp
    repeat (first | refine ⟨by omega,?_⟩ | refine ⟨by simp [capMax,ByteArray.size_append]; omega,?_⟩)
    refine ACallK_of (f35_ok _ (by simp [ByteArray.size_append]; omega)) ?_
    simp -dsimp
    simp [stateText,stateTextOk,hk,stateS,app_assoc]
end Am
namespace Am
open Go Go.Proofs
open Cel (cells)
set_option maxRecDepth 100000
def txtK (c:GCur):Nat → List UInt8 × GCur
  | 0 => ([],c)
  | i + 1 => ((txtK c i).1 ++ [u8 (curB (txtK c i).2).1],(curB (txtK c i).2).2)
theorem txtK_len (c:GCur):∀ i,(txtK c i).1.length = i
  | 0 => rfl
  | i + 1 => by simp [txtK,txtK_len c i]
theorem txtK_ok {c:GCur} (h:c.Ok):∀ i,(txtK c i).2.Ok
  | 0 => h
  | i + 1 => curB_ok (txtK_ok h i)
@[simp] def h120:Hts:={ merge:=fun _ => false,lend:=fun f => if f = 62 then [.box []] else [] }
set_option maxHeartbeats 2000000 in
theorem f120_ok (c:GCur) (hc:c.Ok) (n:Nat) (hn:n ≤ 5000):FnW Tryz.prog 120 [.ptr [.im c.b.length (flat c.b),.int .i64 c.i,.int .i64 c.h],.v (.int .i64 n)] (.v (.str (str (txtK c n).1))) [.ptr [.im ((txtK c n).2).b.length (flat ((txtK c n).2).b),.int .i64 ((txtK c n).2).i,.int .i64 ((txtK c n).2).h],.any]:=by
  have hn':¬ (5000:Int) < n:=by omega
  refine FnW.of_AW TryzT_ok 1 (fn:=Tryz.f120) (by kernel_rfl) rfl (by kernel_rfl) rfl rfl rfl ?_; refine AW_of h120 TryzT_ok (by kernel_rfl) ?_
  simp -dsimp [hn']
  refine AWh_loop (fun i:Nat => i ≤ n) (fun i => mkE [(0,.box 640000 0),(1,.c (.int .i64 n)),(5,.arr 576),(6,.c (.int .i64 i))] [(640000,.box [.c (.im ((txtK c i).2).b.length (flat ((txtK c i).2).b)),.c (.int .i64 ((txtK c i).2).i),.c (.int .i64 ((txtK c i).2).h)]),(576,.arr 0 5 1 i (flat (txtK c i).1))]) (fun i => n - i) 0 (Wk_to [0,1,5,6] [(640000,640000),(576,576)] rfl rfl (by simp [txtK])) (by simp) ?_
  rintro i hi
  refine AW_of h120 TryzT_ok (by kernel_rfl) ?_
  have wi:IntKind.i64.wrap ((i:Int) + 1) = i + 1:=wrap64 (by omega) (by omega)
  rcases Nat.lt_or_ge i n with h1 | h1
  · have h1':(i:Int) < n:=by omega
    simp -dsimp [h1']
    refine ACallW_go ?_
    refine ACallC_go (fun us => f62_ok (txtK c i).2 (txtK_ok hc i)) ?_
    simp -dsimp [wi]
    refine ⟨by simp [capMax]; omega,?_⟩
    exact Back_of (i + 1) [0,1,5,6] [(640000,640000),(576,1280)] rfl rfl (by simp [txtK]) (by omega) (by omega)
  · obtain rfl:i = n:=by omega
    simp -dsimp
    exact ⟨txtK_len c i,rfl⟩
def spK (c:GCur):Int × GCur:=curN c 12
def spT (c:GCur):ByteArray × GCur:=(str (txtK c 1).1,(txtK c 1).2)
def spoil (c:GCur) (s:ByteArray):ByteArray × GCur :=
  if (spK c).1 = 0 then (s ++ (spT (spK c).2).1,(spT (spK c).2).2)
  else if (spK c).1 = 1 then (s.extract 0 (curN (spK c).2 ((s.size:Int) + 1)).1.toNat,(curN (spK c).2 ((s.size:Int) + 1)).2)
  else if ((spK c).1 = 2 ∨ (spK c).1 = 3) ∧ 0 < s.size then
    (s.extract 0 (curN (spK c).2 s.size).1.toNat ++ (spT (curN (spK c).2 s.size).2).1 ++ s.extract ((curN (spK c).2 s.size).1.toNat + 1) s.size,(spT (curN (spK c).2 s.size).2).2)
  else (s,(spK c).2)
theorem spT_size (c:GCur):(spT c).1.size = 1:=by simp [spT,txtK_len]
theorem spoil_size (c:GCur) (s:ByteArray):(spoil c s).1.size ≤ s.size + 1:=by
  have h1:=spT_size (spK c).2
  have h2:=spT_size (curN (spK c).2 s.size).2
  unfold spoil
  split
  · simp only [ByteArray.size_append]; omega
  split
  · simp only [ByteArray.size_extract]; omega
  split
  · rename_i hc
    have hb:=curN_bd (spK c).2 (n:=(s.size:Int)) (by omega)
    simp only [ByteArray.size_append,ByteArray.size_extract]; omega
  · simp only; omega
@[simp] def h52:Hts:={ merge:=fun _ => false,mergeF:=fun _ => false,lend:=fun f => if f = 50 || f = 120 then [.box []] else [],dr:=fun id => if id = 10 then [{ mn:=[640000],mb:=[37,42] },{ mn:=[640000],mb:=[37,42] },{ mn:=[640000],cr:=true,mb:=[37,42] },{ mb:=[35,42] },{ wr:=[640000],cr:=true,mb:=[35,42] },{ mb:=[42] },{ mn:=[640000],mb:=[35,37] },{ mn:=[640000],mb:=[35,37] },{ mn:=[640000],mb:=[35,37] },{ mn:=[640000],cr:=true,mb:=[35,37] },{},{}] else [] }
set_option maxHeartbeats 8000000 in
theorem f52_ok (c:GCur) (hc:c.Ok) (s:ByteArray) (hs:s.size ≤ 1000000):FnW Tryz.prog 52 [.ptr [.im c.b.length (flat c.b),.int .i64 c.i,.int .i64 c.h],.v (.str s)] (.v (.str ((spoil c s).1))) [.ptr [.im ((spoil c s).2).b.length (flat ((spoil c s).2).b),.int .i64 ((spoil c s).2).i,.int .i64 ((spoil c s).2).h],.any]:=by
  have hk:(spK c).2.Ok:=curN_ok hc 12
  have kb:=curN_bd c (n:=12) (by decide)
  have hkb:0 ≤ (spK c).1 ∧ (spK c).1 < 12:=kb
  have hw:IntKind.i64.wrap ((s.size:Int) + 1) = (s.size:Int) + 1:=wrap64 (by omega) (by omega)
  have ht:=f120_ok
  refine FnW.of_AW TryzT_ok 1 (fn:=Tryz.f52) (by kernel_rfl) rfl (by kernel_rfl) rfl rfl rfl ?_; refine AW_of h52 TryzT_ok (by kernel_rfl) ?_
  simp -dsimp
  refine ACallW_go ?_
  refine ACallC_go (fun us => f50_ok c hc 12) ?_
  rw [show curN c 12 = spK c from rfl]
  by_cases k0:(spK c).1 = 0
  · simp -dsimp [k0]
    refine ACallW_go ?_
    refine ACallC_go (fun us => f120_ok (spK c).2 hk 1 (by omega)) ?_
    have e:spoil c s = (s ++ str (txtK (spK c).2 1).1,(txtK (spK c).2 1).2):=by simp [spoil,k0,spT]
    have hl:=txtK_len (spK c).2 1
    simp -dsimp
    refine ⟨by simp [capMax]; omega,?_⟩
    simp [e]
  have k0b:((spK c).1 == 0) = false:=by simp [k0]
  by_cases k1:(spK c).1 = 1
  · have hb:=curN_bd (spK c).2 (n:=(s.size:Int) + 1) (by omega)
    have e:spoil c s = (s.extract 0 (curN (spK c).2 ((s.size:Int) + 1)).1.toNat,(curN (spK c).2 ((s.size:Int) + 1)).2):=by simp [spoil,k1]
    simp -dsimp [k1,hw]
    refine ACallW_go ?_
    refine ACallC_go (fun us => f50_ok (spK c).2 hk ((s.size:Int) + 1)) ?_
    rw [e]
    generalize curN (spK c).2 ((s.size:Int) + 1) = Q at *
    simp -dsimp
    first
      | (refine ⟨by omega,by omega,?_⟩; simp; done)
      | (refine ⟨by omega,by omega⟩; done)
  have k1b:((spK c).1 == 1) = false:=by simp [k1]
  by_cases k2:((spK c).1 = 2 ∨ (spK c).1 = 3) ∧ 0 < s.size
  · obtain ⟨k23,hpos⟩:=k2
    have hb:=curN_bd (spK c).2 (n:=(s.size:Int)) (by omega)
    have e:spoil c s = (s.extract 0 (curN (spK c).2 s.size).1.toNat ++ str (txtK (curN (spK c).2 s.size).2 1).1 ++ s.extract ((curN (spK c).2 s.size).1.toNat + 1) s.size,(txtK (curN (spK c).2 s.size).2 1).2):=by simp [spoil,k0,k1,k23,hpos,spT]
    have hQo:(curN (spK c).2 s.size).2.Ok:=curN_ok hk _
    have hpos':(0:Int) < s.size:=by omega
    rw [e]
    generalize hQ:curN (spK c).2 (s.size:Int) = Q at *
    obtain ⟨q,d⟩:=Q
    obtain ⟨n,rfl⟩:=Int.eq_ofNat_of_zero_le hb.1
    simp only at hb hQo
    have hl:=txtK_len d 1
    have wn:IntKind.i64.wrap ((n:Int) + 1) = n + 1:=wrap64 (by omega) (by omega)
    have tail:∀ (h:0 < s.size),True:=fun _ => trivial
    rcases k23 with k2 | k2
    · simp -dsimp [k2,hpos',hpos]
      refine ACallW_go ?_
      refine ACallC_go (fun us => f50_ok (spK c).2 hk (s.size:Int)) ?_
      rw [hQ]
      simp -dsimp [wn]
      refine ⟨by omega,?_⟩
      refine ACallW_go ?_
      refine ACallC_go (fun us => f120_ok d hQo 1 (by omega)) ?_
      simp -dsimp [wn]
      exact ⟨by simp only [capMax]; omega,⟨by omega,by omega⟩,by simp only [capMax]; omega⟩
    · simp -dsimp [k2,hpos',hpos]
      refine ACallW_go ?_
      refine ACallC_go (fun us => f50_ok (spK c).2 hk (s.size:Int)) ?_
      rw [hQ]
      simp -dsimp [wn]
      refine ⟨by omega,?_⟩
      refine ACallW_go ?_
      refine ACallC_go (fun us => f120_ok d hQo 1 (by omega)) ?_
      simp -dsimp [wn]
      exact ⟨by simp only [capMax]; omega,⟨by omega,by omega⟩,by simp only [capMax]; omega⟩
  · have e:spoil c s = (s,(spK c).2):=by simp only [spoil,if_neg k0,if_neg k1,if_neg k2]
    by_cases k3:(spK c).1 = 2
    · have hz:s.size = 0:=by
        have:¬ 0 < s.size:=fun h => k2 ⟨.inl k3,h⟩
        omega
      have hz':¬ (0:Int) < s.size:=by omega
      simp -dsimp [k3,hz',hz]
      simp [e]
    by_cases k4:(spK c).1 = 3
    · have hz:s.size = 0:=by
        have:¬ 0 < s.size:=fun h => k2 ⟨.inr k4,h⟩
        omega
      have hz':¬ (0:Int) < s.size:=by omega
      simp -dsimp [k4,hz',hz]
      simp [e]
    have k3b:((spK c).1 == 2) = false:=by simp [k3]
    have k4b:((spK c).1 == 3) = false:=by simp [k4]
    simp -dsimp [k0b,k1b,k3b,k4b]
    simp [e]
theorem sealS_size (t:ByteArray):(sealS t).size ≤ 20004:=by
  unfold sealS
  split
  · simp only [ByteArray.size_append,fourS_size]; omega
  · exact Nat.zero_le _
theorem stateText_size (s:GState):(stateText s).size ≤ 20004:=by
  unfold stateText
  split
  · exact sealS_size _
  · exact Nat.zero_le _
theorem deltaText_size (d:GDelta):(deltaText d).size ≤ 20004:=by
  unfold deltaText
  split
  · exact sealS_size _
  · exact Nat.zero_le _
def garble (k:Int) (c:GCur) (s:ByteArray):ByteArray :=
  if k = 0 then (spoil c s).1 else if k = 1 ∧ unOk s = true then sealS (spoil c (unS s)).1 else s
theorem garble_size (k:Int) (c:GCur) {s:ByteArray} (h:s.size ≤ 20004):(garble k c s).size ≤ 20005:=by
  have h1:=spoil_size c s
  have h2:=sealS_size (spoil c (unS s)).1
  unfold garble
  split
  · omega
  split <;> omega
@[simp] def h6:Hts:={ merge:=fun _ => false,own:=fun d => !(d == 5),lend:=fun f => if f = 32 then [.box []] else [] }
theorem f6_ok (b:List UInt8) (hb:b.length ≤ 1048576):FnR Tryz.prog 6 [.v (.im b.length (flat b))] (.agg [.im ((anyD (curNew b)).1).know.length (flat ((anyD (curNew b)).1).know),.im ((anyD (curNew b)).1).tallies.length (flat ((anyD (curNew b)).1).tallies),.im ((anyD (curNew b)).1).lives.length (flat ((anyD (curNew b)).1).lives),.im ((anyD (curNew b)).1).cs.length (flat ((anyD (curNew b)).1).cs)]):=by
  refine FnW.of_AW TryzT_ok 0 (fn:=Tryz.f6) (by kernel_rfl) rfl (by kernel_rfl) rfl rfl rfl ?_; refine AW_of h6 TryzT_ok (by kernel_rfl) ?_
  simp -dsimp
  refine ACallK_of (f33_ok b hb) ?_
  simp -dsimp
  refine ACallW_go ?_
  refine ACallC_go (fun us => f32_ok (curNew b) (curNew_ok hb)) ?_
  simp -dsimp
@[simp] def h9:Hts:={ merge:=fun _ => false,own:=fun d => !(d == 5),lend:=fun f => if f = 45 then [.box []] else [] }
theorem f9_ok (b:List UInt8) (hb:b.length ≤ 1048576):FnR Tryz.prog 9 [.v (.im b.length (flat b))] (.agg [.im ((anyDl (curNew b)).1).base.length (flat ((anyDl (curNew b)).1).base),.im ((anyDl (curNew b)).1).know.length (flat ((anyDl (curNew b)).1).know),.im ((anyDl (curNew b)).1).tallies.length (flat ((anyDl (curNew b)).1).tallies),.im ((anyDl (curNew b)).1).lives.length (flat ((anyDl (curNew b)).1).lives),.im ((anyDl (curNew b)).1).dead.length (flat ((anyDl (curNew b)).1).dead),.im ((anyDl (curNew b)).1).cs.length (flat ((anyDl (curNew b)).1).cs)]):=by
  refine FnW.of_AW TryzT_ok 0 (fn:=Tryz.f9) (by kernel_rfl) rfl (by kernel_rfl) rfl rfl rfl ?_; refine AW_of h9 TryzT_ok (by kernel_rfl) ?_
  simp -dsimp
  refine ACallK_of (f33_ok b hb) ?_
  simp -dsimp
  refine ACallW_go ?_
  refine ACallC_go (fun us => f45_ok (curNew b) (curNew_ok hb)) ?_
  simp -dsimp
def drsK (b:List UInt8):Int × GCur:=curN (curNew b) 5
def drsU (b:List UInt8):GState × GCur:=anyD (drsK b).2
def drsT (b:List UInt8):ByteArray:=garble (drsK b).1 (drsU b).2 (stateText (drsU b).1)
@[simp] def h12:Hts:={ merge:=fun _ => false,mergeF:=fun _ => false,lend:=fun f => if f = 50 || f = 32 || f = 52 then [.box []] else [] }
set_option maxHeartbeats 4000000 in
theorem f12_ok (b:List UInt8) (hb:b.length ≤ 1048576):FnR Tryz.prog 12 [.v (.im b.length (flat b))] (.v (.str (drsT b))):=by
  have h:=curNew_ok hb
  have hK:(drsK b).2.Ok:=curN_ok h 5
  have hU:(drsU b).2.Ok:=anyD_ok hK
  have hO:(drsU b).1.Ok:=anyD_Ok _
  have hz:=stateText_size (drsU b).1
  have hus:=unS_size (stateText (drsU b).1)
  have hsp:=spoil_size (drsU b).2 (unS (stateText (drsU b).1))
  refine FnW.of_AW TryzT_ok 0 (fn:=Tryz.f12) (by kernel_rfl) rfl (by kernel_rfl) rfl rfl rfl ?_; refine AW_of h12 TryzT_ok (by kernel_rfl) ?_
  simp -dsimp
  refine ACallK_of (f33_ok b hb) ?_
  simp -dsimp
  refine ACallW_go ?_
  refine ACallC_go (fun us => f50_ok (curNew b) h 5) ?_
  rw [show curN (curNew b) 5 = drsK b from rfl]
  simp -dsimp
  refine ACallW_go ?_
  refine ACallC_go (fun us => f32_ok (drsK b).2 hK) ?_
  rw [show anyD (drsK b).2 = drsU b from rfl]
  simp -dsimp
  refine ACallK_of (f51_ok _ hO) ?_
  by_cases k0:(drsK b).1 = 0
  · simp -dsimp [k0]
    refine ACallW_go ?_
    refine ACallC_go (fun us => f52_ok (drsU b).2 hU (stateText (drsU b).1) (by omega)) ?_
    simp -dsimp
    simp [drsT,garble,k0]
  have k0b:((drsK b).1 == 0) = false:=by simp [k0]
  by_cases k1:(drsK b).1 = 1
  · simp -dsimp [k1]
    refine ACallK_of (f53_ok _ (by omega)) ?_
    cases q:unOk (stateText (drsU b).1)
    · simp -dsimp
      simp [drsT,garble,k1,q]
    · simp -dsimp
      refine ACallW_go ?_
      refine ACallC_go (fun us => f52_ok (drsU b).2 hU (unS (stateText (drsU b).1)) (by omega)) ?_
      simp -dsimp
      refine ACallK_of (f54_ok _ (by omega)) ?_
      simp -dsimp
      simp [drsT,garble,k1,q]
  have k1b:((drsK b).1 == 1) = false:=by simp [k1]
  simp -dsimp [k0b,k1b]
  simp [drsT,garble,k0,k1]
def drdK (b:List UInt8):Int × GCur:=curN (curNew b) 5
def drdU (b:List UInt8):GDelta × GCur:=anyDl (drdK b).2
def drdT (b:List UInt8):ByteArray:=garble (drdK b).1 (drdU b).2 (deltaText (drdU b).1)
@[simp] def h14:Hts:={ merge:=fun _ => false,mergeF:=fun _ => false,lend:=fun f => if f = 50 || f = 45 || f = 52 then [.box []] else [] }
set_option maxHeartbeats 4000000 in
theorem f14_ok (b:List UInt8) (hb:b.length ≤ 1048576):FnR Tryz.prog 14 [.v (.im b.length (flat b))] (.v (.str (drdT b))):=by
  have h:=curNew_ok hb
  have hK:(drdK b).2.Ok:=curN_ok h 5
  have hU:(drdU b).2.Ok:=anyDl_ok hK
  have hO:(drdU b).1.Ok:=anyDl_Ok hK
  have hz:=deltaText_size (drdU b).1
  have hus:=unS_size (deltaText (drdU b).1)
  have hsp:=spoil_size (drdU b).2 (unS (deltaText (drdU b).1))
  refine FnW.of_AW TryzT_ok 0 (fn:=Tryz.f14) (by kernel_rfl) rfl (by kernel_rfl) rfl rfl rfl ?_; refine AW_of h14 TryzT_ok (by kernel_rfl) ?_
  simp -dsimp
  refine ACallK_of (f33_ok b hb) ?_
  simp -dsimp
  refine ACallW_go ?_
  refine ACallC_go (fun us => f50_ok (curNew b) h 5) ?_
  rw [show curN (curNew b) 5 = drdK b from rfl]
  simp -dsimp
  refine ACallW_go ?_
  refine ACallC_go (fun us => f45_ok (drdK b).2 hK) ?_
  rw [show anyDl (drdK b).2 = drdU b from rfl]
  simp -dsimp
  refine ACallK_of (f59_ok _ hO) ?_
  by_cases k0:(drdK b).1 = 0
  · simp -dsimp [k0]
    refine ACallW_go ?_
    refine ACallC_go (fun us => f52_ok (drdU b).2 hU (deltaText (drdU b).1) (by omega)) ?_
    simp -dsimp
    simp [drdT,garble,k0]
  have k0b:((drdK b).1 == 0) = false:=by simp [k0]
  by_cases k1:(drdK b).1 = 1
  · simp -dsimp [k1]
    refine ACallK_of (f53_ok _ (by omega)) ?_
    cases q:unOk (deltaText (drdU b).1)
    · simp -dsimp
      simp [drdT,garble,k1,q]
    · simp -dsimp
      refine ACallW_go ?_
      refine ACallC_go (fun us => f52_ok (drdU b).2 hU (unS (deltaText (drdU b).1)) (by omega)) ?_
      simp -dsimp
      refine ACallK_of (f54_ok _ (by omega)) ?_
      simp -dsimp
      simp [drdT,garble,k1,q]
  have k1b:((drdK b).1 == 1) = false:=by simp [k1]
  simp -dsimp [k0b,k1b]
  simp [drdT,garble,k0,k1]
@[simp] def h16:Hts:={ merge:=fun _ => false,mergeF:=fun _ => false,lend:=fun f => if f = 50 || f = 62 then [.box []] else [] }
set_option maxHeartbeats 1000000 in
theorem f16_ok (b:List UInt8) (hb:b.length ≤ 1048576):FnR Tryz.prog 16 [.v (.im b.length (flat b))] (.v (.ow 3 1 ((drawsK (curB (curNew b)).2 10000 12).1).length (flat ((drawsK (curB (curNew b)).2 10000 12).1)))):=by
  refine FnW.of_AW TryzT_ok 0 (fn:=Tryz.f16) (by kernel_rfl) rfl (by kernel_rfl) rfl rfl rfl ?_; refine AW_of h16 TryzT_ok (by kernel_rfl) ?_
  simp -dsimp
  refine ACallK_of (f33_ok b hb) ?_
  simp -dsimp
  refine ACallW_go ?_
  refine ACallC_go (fun us => f62_ok (curNew b) (curNew_ok hb)) ?_
  have hc:(curB (curNew b)).2.Ok:=curB_ok (curNew_ok hb)
  generalize (curB (curNew b)).2 = c at *
  simp -dsimp
  refine AWh_loop (fun i:Nat => i ≤ 12) (fun i => mkE [(3,.box 448 0),(4,.arr 256),(5,.c (.int .i64 i))] [(448,.box [.c (.im ((drawsK c 10000 i).2).b.length (flat ((drawsK c 10000 i).2).b)),.c (.int .i64 ((drawsK c 10000 i).2).i),.c (.int .i64 ((drawsK c 10000 i).2).h)]),(256,.arr 0 3 1 (drawsK c 10000 i).1.length (flat (drawsK c 10000 i).1))]) (fun i => 12 - i) 0 (Wk_to [3,4,5] [(448,448),(256,640)] rfl rfl (by simp [drawsK])) (by simp) ?_
  rintro i hi
  refine AW_of h16 TryzT_ok (by kernel_rfl) ?_
  have wi:IntKind.i64.wrap ((i:Int) + 1) = i + 1:=wrap64 (by omega) (by omega)
  have hl:=drawsK_len c 10000 i
  rcases Nat.lt_or_ge i 12 with q1 | q1
  · have q1':(i:Int) < 12:=by omega
    simp -dsimp [q1']
    refine ACallW_go ?_
    refine ACallC_go (fun us => f50_ok (drawsK c 10000 i).2 (drawsK_ok hc 10000 i) 10000) ?_
    simp -dsimp [wi]
    repeat (first|refine ⟨by omega,?_⟩|refine ⟨by simp [capMax];omega,?_⟩|refine ⟨⟨by omega,by omega⟩,?_⟩)
    exact Back_of (i + 1) [3,4,5] [(448,448),(256,1216)] rfl rfl (by simp [drawsK]) (by omega) (by omega)
  · obtain rfl:i = 12:=by omega
    simp -dsimp
end Am
namespace Am
open Go Go.Proofs
open Cel (cells)
set_option maxRecDepth 100000
theorem liM_N {α:Type} [Cel α] {r:GScan → α × GScan} {s:GScan} {N:Nat} (h:(cntM s).1.toNat = N):liM r s = lsM r (cntM s).2 N:=by unfold liM; rw [h]
theorem liS_N {α:Type} [Cel α] {r:GScan → α × GScan} {s:GScan} {N:Nat} (h:(cntM s).1.toNat = N):liS r s = lsS r (cntM s).2 N:=by unfold liS; rw [h]
def GDelta.empty:GDelta:=⟨[],[],[],[],[],[]⟩
def dlM (s:GScan):GDelta × GScan :=
  (⟨(knowM s).1,(knowM (knowM s).2).1,(liM talM (knowM (knowM s).2).2).1,(liM (liveM flagM) (liM talM (knowM (knowM s).2).2).2).1,(liM dotM (liM (liveM flagM) (liM talM (knowM (knowM s).2).2).2).2).1,
    (liM (cellM flagM) (liM dotM (liM (liveM flagM) (liM talM (knowM (knowM s).2).2).2).2).2).1⟩,(liM (cellM flagM) (liM dotM (liM (liveM flagM) (liM talM (knowM (knowM s).2).2).2).2).2).2)
def dlS (s:GScan):GDelta × GScan :=
  (⟨(knowM s).1,(knowM (knowM s).2).1,(liS talM (knowM (knowM s).2).2).1,(liS (liveM boolS) (liS talM (knowM (knowM s).2).2).2).1,(liS dotM (liS (liveM boolS) (liS talM (knowM (knowM s).2).2).2).2).1,
    (liS (cellM boolS) (liS dotM (liS (liveM boolS) (liS talM (knowM (knowM s).2).2).2).2).2).1⟩,(liS (cellM boolS) (liS dotM (liS (liveM boolS) (liS talM (knowM (knowM s).2).2).2).2).2).2)
theorem dlM_rdr:Rdr dlM deltaS:=(knowM_rdr.two (knowM_rdr.two ((liM_rdr talM_rdr).two ((liM_rdr (liveM_rdr flagM_rdr)).two ((liM_rdr dotM_rdr).two (liM_rdr (cellM_rdr flagM_rdr))))))).to (fun x => ⟨x.1,x.2.1,x.2.2.1,x.2.2.2.1,x.2.2.2.2.1,x.2.2.2.2.2⟩) (fun s => rfl) (fun x => rfl)
theorem liS_fine {α:Type} [Cel α] {r:GScan → α × GScan} {s:GScan} (hr:∀ s,Fine s → Fine (r s).2) (f:Fine s):Fine (liS r s).2:=by
  have:∀ n,Fine (lsS r (cntM s).2 n).2:=by
    intro n
    induction n with
    | zero => exact cntM_fine f
    | succ n ih =>
      rw [lsS]
      split
      · exact ih
      · exact hr _ ih
  exact this _
theorem liveS_fine (s:GScan) (f:Fine s):Fine (liveM boolS s).2:=by
  unfold liveM
  exact dotM_rdr.f _ (numM_rdr.f _ (shM_rdr.f _ (shM_rdr.f _ (boolS_fine _ f))))
theorem dl_eq (s:GScan) (f:Fine s) (h:(dlM s).2.bad = false ∨ (dlS s).2.bad = false):dlM s = dlS s:=by
  have f0:=knowM_rdr.f s f
  have f1:=knowM_rdr.f _ f0
  have f2:=(liM_rdr talM_rdr).f _ f1
  have f3:=(liM_rdr (liveM_rdr flagM_rdr)).f _ f2
  have f4:=(liM_rdr dotM_rdr).f _ f3
  have e1:=liM_liS talM_rdr (q:=talM) (fun s _ _ => rfl) _ f1
  have e2:=liM_liS (liveM_rdr flagM_rdr) (q:=liveM boolS) live_eq _ f2
  have e3:=liM_liS dotM_rdr (q:=dotM) (fun s _ _ => rfl) _ f3
  have e4:=liM_liS (cellM_rdr flagM_rdr) (q:=cellM boolS) cell_eq _ f4
  rcases h with h | h
  · have g4:=(liM_rdr (cellM_rdr flagM_rdr)).g _ f4 h
    have g3:=(liM_rdr dotM_rdr).g _ f3 g4.b
    have g2:=(liM_rdr (liveM_rdr flagM_rdr)).g _ f2 g3.b
    have e1:=e1 (Or.inl g2.b)
    have e2:=e2 (Or.inl g3.b)
    have e3:=e3 (Or.inl g4.b)
    have e4:=e4 (Or.inl h)
    unfold dlM dlS
    rw [← e1,← e2,← e3,← e4]
  · have k2:=liS_fine (r:=talM) talM_rdr.f f1
    have k3:=liS_fine (r:=liveM boolS) liveS_fine k2
    have k4:=liS_fine (r:=dotM) dotM_rdr.f k3
    have b4:=liS_stuck (r:=cellM boolS) k4 h
    have b3:=liS_stuck (r:=dotM) k3 b4
    have b2:=liS_stuck (r:=liveM boolS) k2 b3
    have e1:=e1 (Or.inr b2)
    rw [e1] at e2 e3 e4
    have e2:=e2 (Or.inr b3)
    rw [e2] at e3 e4
    have e3:=e3 (Or.inr b4)
    rw [e3] at e4
    have e4:=e4 (Or.inr h)
    unfold dlM dlS
    rw [e1,e2,e3,e4]
theorem dlS_Ok (s:GScan):(dlS s).1.Ok:=by
  have a0:=kn_len s 3
  have a1:=kn_len (knowM s).2 3
  have a2:=liS_len (r:=talM) (knowM (knowM s).2).2
  have a3:=liS_len (r:=liveM boolS) (liS talM (knowM (knowM s).2).2).2
  have a4:=liS_len (r:=dotM) (liS (liveM boolS) (liS talM (knowM (knowM s).2).2).2).2
  have a5:=liS_len (r:=cellM boolS) (liS dotM (liS (liveM boolS) (liS talM (knowM (knowM s).2).2).2).2).2
  refine ⟨?_,?_,?_,lsS_all (fun s => ?_) _ _,?_,lsS_all (fun s => ?_) _ _,?_,?_,lsS_all (fun s => ?_) _ _⟩
  · simp only [dlS,knowM]; omega
  · simp only [dlS]; show (kn _ 3).1.length ≤ _; omega
  · simp only [dlS]; omega
  · have:=shM_size s; simp only [talM,GTally.Ok]; omega
  · simp only [dlS]; omega
  · have:=shM_size (boolS s).2; have:=shM_size (shM (boolS s).2).2; simp only [liveM,GLive.Ok]; omega
  · simp only [dlS]; omega
  · simp only [dlS]; omega
  · have:=shM_size s; simp only [cellM,GCell.Ok]; omega
theorem dlM_Ok (s:GScan):(dlM s).1.Ok:=by
  have a0:=kn_len s 3
  have a1:=kn_len (knowM s).2 3
  have a2:=liM_len (r:=talM) (knowM (knowM s).2).2
  have a3:=liM_len (r:=liveM flagM) (liM talM (knowM (knowM s).2).2).2
  have a4:=liM_len (r:=dotM) (liM (liveM flagM) (liM talM (knowM (knowM s).2).2).2).2
  have a5:=liM_len (r:=cellM flagM) (liM dotM (liM (liveM flagM) (liM talM (knowM (knowM s).2).2).2).2).2
  refine ⟨?_,?_,?_,lsM_all (fun s => ?_) _ _,?_,lsM_all (fun s => ?_) _ _,?_,?_,lsM_all (fun s => ?_) _ _⟩
  · simp only [dlM,knowM]; omega
  · simp only [dlM]; show (kn _ 3).1.length ≤ _; omega
  · simp only [dlM]; omega
  · have:=shM_size s; simp only [talM,GTally.Ok]; omega
  · simp only [dlM]; omega
  · have:=shM_size (flagM s).2; have:=shM_size (shM (flagM s).2).2; simp only [liveM,GLive.Ok]; omega
  · simp only [dlM]; omega
  · simp only [dlM]; omega
  · have:=shM_size s; simp only [cellM,GCell.Ok]; omega
def resDM (x:GDelta) (f:GScan) (t:ByteArray):GDelta × Bool:=if f.bad = false ∧ f.pos = (unS t).size ∧ deltaOk x = true then (x,true) else (GDelta.empty,false)
def resDS (x:GDelta) (f:GScan) (t:ByteArray):GDelta × Bool:=if f.bad = false ∧ (deltaOk x = true ∧ sealOk (deltaS x) = true) ∧ sealS (deltaS x) = t then (x,true) else (GDelta.empty,false)
def rdDlM (t:ByteArray):GDelta × Bool:=resDM (dlM (scan0 t)).1 (dlM (scan0 t)).2 t
def rdDlS (t:ByteArray):GDelta × Bool:=resDS (dlS (scan0 t)).1 (dlS (scan0 t)).2 t
theorem rdDl_eq (t:ByteArray):rdDlS t = rdDlM t:=by
  have h:=whole_eq (ok:=deltaOk) dlM_rdr dl_eq t
  unfold rdDlM rdDlS resDM resDS
  by_cases hc:(dlS (scan0 t)).2.bad = false ∧ (deltaOk (dlS (scan0 t)).1 = true ∧ sealOk (deltaS (dlS (scan0 t)).1) = true) ∧ sealS (deltaS (dlS (scan0 t)).1) = t
  · rw [if_pos hc,if_pos (h.2 hc),dl_eq _ (scan0_fine t) (Or.inr hc.1)]
  · rw [if_neg hc,if_neg fun h' => hc (h.1 h')]
@[simp] def h15:Hts:={ merge:=fun _ => false,lend:=fun f => if f = 55 ∨ f = 56 ∨ f = 57 ∨ f = 58 ∨ f = 60 ∨ f = 61 then [.box []] else [],dr:=fun id => if id = 11 then [{ mn:=[1344],mb:=[51,52] },{ mn:=[1344],mb:=[51,52] },{},{ wr:=[1344],cr:=true },{ cr:=true },{ wr:=[3136],cr:=true },{},{ wr:=[448] }] else [] }
set_option maxHeartbeats 4000000 in
theorem f15_ok (t:ByteArray) (ht:t.size ≤ 1073741824):FnR Tryz.prog 15 [.v (.str t)] (.tup [.agg [.ow 3 1 ((rdDlS t).1).base.length (flat ((rdDlS t).1).base),.ow 3 1 ((rdDlS t).1).know.length (flat ((rdDlS t).1).know),.ow 104 3 ((rdDlS t).1).tallies.length (flat ((rdDlS t).1).tallies),.ow 98 6 ((rdDlS t).1).lives.length (flat ((rdDlS t).1).lives),.ow 60 2 ((rdDlS t).1).dead.length (flat ((rdDlS t).1).dead),.ow 100 8 ((rdDlS t).1).cs.length (flat ((rdDlS t).1).cs)],.v (.bool ((rdDlS t).2))]):=by
  have hu:=unS_size t
  have hz:(scan0 t).t.size ≤ 1073741824:=by simp only [scan0]; omega
  have hp:0 ≤ (scan0 t).pos:=by simp [scan0]
  have e1:((knowM (scan0 t)).2).t = (scan0 t).t:=knowM_t _
  have p1:0 ≤ ((knowM (scan0 t)).2).pos:=kn_pos hp 3
  have e2:((knowM (knowM (scan0 t)).2).2).t = (scan0 t).t:=by rw [knowM_t _,e1]
  have p2:0 ≤ ((knowM (knowM (scan0 t)).2).2).pos:=kn_pos p1 3
  have e3:((liS talM (knowM (knowM (scan0 t)).2).2).2).t = (scan0 t).t:=by rw [liS_t talM_t,e2]
  have p3:0 ≤ ((liS talM (knowM (knowM (scan0 t)).2).2).2).pos:=liS_pos talM_pos p2
  have e4:((liS (liveM boolS) (liS talM (knowM (knowM (scan0 t)).2).2).2).2).t = (scan0 t).t:=by rw [liS_t (liveM_t boolS_t),e3]
  have p4:0 ≤ ((liS (liveM boolS) (liS talM (knowM (knowM (scan0 t)).2).2).2).2).pos:=liS_pos (liveM_pos fun _ => boolS_pos) p3
  have e5:((liS dotM (liS (liveM boolS) (liS talM (knowM (knowM (scan0 t)).2).2).2).2).2).t = (scan0 t).t:=by rw [liS_t dotM_t,e4]
  have p5:0 ≤ ((liS dotM (liS (liveM boolS) (liS talM (knowM (knowM (scan0 t)).2).2).2).2).2).pos:=liS_pos (fun _ => dotM_pos) p4
  have c0:=f55_ok (scan0 t) hz
  have c1:=f55_ok ((knowM (scan0 t)).2) (by rw [e1]; exact hz)
  have c2:=f56_ok ((knowM (knowM (scan0 t)).2).2) (by rw [e2]; exact hz) p2
  have c3:=f57_ok ((liS talM (knowM (knowM (scan0 t)).2).2).2) (by rw [e3]; exact hz) p3
  have c4:=f60_ok ((liS (liveM boolS) (liS talM (knowM (knowM (scan0 t)).2).2).2).2) (by rw [e4]; exact hz)
  have c6:=f58_ok ((liS dotM (liS (liveM boolS) (liS talM (knowM (knowM (scan0 t)).2).2).2).2).2) (by rw [e5]; exact hz) p5
  obtain ⟨N,hN,hN2⟩:=cntM_N ((liS (liveM boolS) (liS talM (knowM (knowM (scan0 t)).2).2).2).2)
  have hNt:(cntM ((liS (liveM boolS) (liS talM (knowM (knowM (scan0 t)).2).2).2).2)).1.toNat = N:=by omega
  have c5:∀ i:Nat,FnW Tryz.prog 61 [.ptr [.str ((lsM dotM (cntM ((liS (liveM boolS) (liS talM (knowM (knowM (scan0 t)).2).2).2).2)).2 i).2).t,.int .i64 ((lsM dotM (cntM ((liS (liveM boolS) (liS talM (knowM (knowM (scan0 t)).2).2).2).2)).2 i).2).pos,.bool ((lsM dotM (cntM ((liS (liveM boolS) (liS talM (knowM (knowM (scan0 t)).2).2).2).2)).2 i).2).bad]] (.agg [.int .i64 ((dotM (lsM dotM (cntM ((liS (liveM boolS) (liS talM (knowM (knowM (scan0 t)).2).2).2).2)).2 i).2).1).rep,.int .i64 ((dotM (lsM dotM (cntM ((liS (liveM boolS) (liS talM (knowM (knowM (scan0 t)).2).2).2).2)).2 i).2).1).seq]) [.ptr [.str ((dotM (lsM dotM (cntM ((liS (liveM boolS) (liS talM (knowM (knowM (scan0 t)).2).2).2).2)).2 i).2).2).t,.int .i64 ((dotM (lsM dotM (cntM ((liS (liveM boolS) (liS talM (knowM (knowM (scan0 t)).2).2).2).2)).2 i).2).2).pos,.bool ((dotM (lsM dotM (cntM ((liS (liveM boolS) (liS talM (knowM (knowM (scan0 t)).2).2).2).2)).2 i).2).2).bad]]:=fun i => f61_ok _ (by rw [lsM_t dotM_t,cntM_t,e4]; exact hz)
  rw [hN] at c4
  have hD:liS dotM ((liS (liveM boolS) (liS talM (knowM (knowM (scan0 t)).2).2).2).2) = lsS dotM (cntM ((liS (liveM boolS) (liS talM (knowM (knowM (scan0 t)).2).2).2).2)).2 N:=liS_N hNt
  have hbs:∀ s:GScan,s.bad = true → lsS dotM s N = lsS dotM s N:=fun _ _ => rfl
  simp only [← liS_def] at c2 c3 c6
  have ho:=dlS_Ok (scan0 t)
  unfold rdDlS
  simp only [dlS] at ho ⊢
  clear e1 e2 e3 e4 e5 p1 p2 p3 p4 p5 hp hz hbs
  generalize knowM (scan0 t) = K at *
  generalize knowM K.2 = Q at *
  generalize liS talM Q.2 = L at *
  generalize liS (liveM boolS) L.2 = M at *
  generalize cntM M.2 = B at *
  rw [hD] at ho c6 ⊢
  generalize hE:liS (cellM boolS) (lsS dotM B.2 N).2 = E at *
  obtain ⟨l,⟨nt,np,nb⟩⟩:=E
  simp only at *
  refine FnW.of_AW TryzT_ok 0 (fn:=Tryz.f15) (by kernel_rfl) rfl (by kernel_rfl) rfl rfl rfl ?_; refine AW_of h15 TryzT_ok (by kernel_rfl) ?_
  simp -dsimp
  refine ACallK_of (f53_ok _ ht) ?_
  simp -dsimp
  refine ACallW_go ?_
  refine ACallC_go (fun us => c0) ?_
  simp -dsimp
  refine ACallW_go ?_
  refine ACallC_go (fun us => c1) ?_
  simp -dsimp
  refine ACallW_go ?_
  refine ACallC_go (fun us => c2) ?_
  simp -dsimp
  refine ACallW_go ?_
  refine ACallC_go (fun us => c3) ?_
  simp -dsimp
  refine ACallW_go ?_
  refine ACallC_go (fun us => c4) ?_
  simp -dsimp
  refine AWh_loop (fun i:Nat => i ≤ N ∧ ∀ j:Nat,j < i → (lsM dotM B.2 j).2.bad = false) (fun i => mkE [(0,.c (.str t)),(2,.box 128 0),(6,.box 1344 0),(7,.box 448 0),(8,.c (.int .i64 N)),(9,.c (.int .i64 i))] [(3136,.arr 0 60 2 (lsM dotM B.2 i).1.length (flat (lsM dotM B.2 i).1)),(128,.box [.nil,.nil,.nil,.nil,.nil,.nil]),(1344,.box [.c (.str (lsM dotM B.2 i).2.t),.c (.int .i64 (lsM dotM B.2 i).2.pos),.c (.bool (lsM dotM B.2 i).2.bad)]),(448,.box [.arr 1472,.arr 1664,.arr 1856,.arr 2048,.arr 3136,.nil]),(1472,.arr 0 3 1 K.1.length (flat K.1)),(1664,.arr 0 3 1 Q.1.length (flat Q.1)),(1856,.arr 0 104 3 L.1.length (flat L.1)),(2048,.arr 0 98 6 M.1.length (flat M.1))]) (fun i => N - i) 0 (Wk_toA [0,2,6,7,8,9] [(128,128),(1344,1344),(448,448),(1472,1472),(1664,1664),(1856,1856),(2048,2048)] [.cell 448 4 3136 60 2] (by decide) (by decide) (by simp [lsM])) (by simp) ?_
  rintro i ⟨hi,hall⟩
  have hl:=lsM_len (r:=dotM) B.2 i
  refine AW_of h15 TryzT_ok (by kernel_rfl) ?_
  rcases Nat.lt_or_ge i N with h1 | h1
  · cases hb:(lsM dotM B.2 i).2.bad
    · simp -dsimp [h1,hb]
      have h0:=c5 i
      rw [hb] at h0
      refine ACallW_go ?_
      refine ACallC_go (fun us => h0) ?_
      simp -dsimp [h1,hb]
      refine ⟨by simp [capMax]; omega,?_⟩
      exact Back_of (i + 1) [0,2,6,7,8,9] [(3136,3392),(128,128),(1344,1344),(448,448),(1472,1472),(1664,1664),(1856,1856),(2048,2048)] rfl rfl (by simp [lsM]; rw [wrap64 (by omega) (by omega)]) ⟨by omega,fun j hj => by
        by_cases e:j = i
        · subst e; exact hb
        · exact hall j (by omega)⟩ (by omega)
    · simp -dsimp [h1,hb]
      have hs:=lsS_stop hall hb N (by omega)
      rw [hs] at c6 hE ho ⊢
      rw [hb] at c6
      refine ACallW_go ?_
      refine ACallC_go (fun us => c6) ?_
      simp -dsimp
      refine ACallK_of (f59_ok _ ho) ?_
      cases nb
      · cases hr:deltaTextOk (⟨K.1,Q.1,L.1,M.1,(lsM dotM B.2 i).1,l⟩:GDelta)
        · have hx:¬ (deltaOk (⟨K.1,Q.1,L.1,M.1,(lsM dotM B.2 i).1,l⟩:GDelta) = true ∧ sealOk (deltaS (⟨K.1,Q.1,L.1,M.1,(lsM dotM B.2 i).1,l⟩:GDelta)) = true):=by simpa [deltaTextOk] using hr
          simp -dsimp [hr]
          simp [resDS,hx,GDelta.empty]
        · have hx:deltaOk (⟨K.1,Q.1,L.1,M.1,(lsM dotM B.2 i).1,l⟩:GDelta) = true ∧ sealOk (deltaS (⟨K.1,Q.1,L.1,M.1,(lsM dotM B.2 i).1,l⟩:GDelta)) = true:=by simpa [deltaTextOk] using hr
          have e:deltaText (⟨K.1,Q.1,L.1,M.1,(lsM dotM B.2 i).1,l⟩:GDelta) = sealS (deltaS (⟨K.1,Q.1,L.1,M.1,(lsM dotM B.2 i).1,l⟩:GDelta)):=by rw [deltaText,if_pos hx.1]
          rw [e]
          by_cases he:sealS (deltaS (⟨K.1,Q.1,L.1,M.1,(lsM dotM B.2 i).1,l⟩:GDelta)) = t
          · simp -dsimp [hr,he]
            simp [resDS,hx,he]
          · simp -dsimp [hr,he]
            simp [resDS,hx,he,GDelta.empty]
      · simp -dsimp
        simp [resDS,GDelta.empty]
  · obtain rfl:i = N:=by omega
    simp -dsimp
    have hs:=lsS_eq hall
    rw [hs] at c6 hE ho ⊢
    refine ACallW_go ?_
    refine ACallC_go (fun us => c6) ?_
    simp -dsimp
    refine ACallK_of (f59_ok _ ho) ?_
    cases nb
    · cases hr:deltaTextOk (⟨K.1,Q.1,L.1,M.1,(lsM dotM B.2 i).1,l⟩:GDelta)
      · have hx:¬ (deltaOk (⟨K.1,Q.1,L.1,M.1,(lsM dotM B.2 i).1,l⟩:GDelta) = true ∧ sealOk (deltaS (⟨K.1,Q.1,L.1,M.1,(lsM dotM B.2 i).1,l⟩:GDelta)) = true):=by simpa [deltaTextOk] using hr
        simp -dsimp [hr]
        simp [resDS,hx,GDelta.empty]
      · have hx:deltaOk (⟨K.1,Q.1,L.1,M.1,(lsM dotM B.2 i).1,l⟩:GDelta) = true ∧ sealOk (deltaS (⟨K.1,Q.1,L.1,M.1,(lsM dotM B.2 i).1,l⟩:GDelta)) = true:=by simpa [deltaTextOk] using hr
        have e:deltaText (⟨K.1,Q.1,L.1,M.1,(lsM dotM B.2 i).1,l⟩:GDelta) = sealS (deltaS (⟨K.1,Q.1,L.1,M.1,(lsM dotM B.2 i).1,l⟩:GDelta)):=by rw [deltaText,if_pos hx.1]
        rw [e]
        by_cases he:sealS (deltaS (⟨K.1,Q.1,L.1,M.1,(lsM dotM B.2 i).1,l⟩:GDelta)) = t
        · simp -dsimp [hr,he]
          simp [resDS,hx,he]
        · simp -dsimp [hr,he]
          simp [resDS,hx,he,GDelta.empty]
    · simp -dsimp
      simp [resDS,GDelta.empty]
@[simp] def h11:Hts:={ merge:=fun _ => false,lend:=fun f => if f = 41 ∨ f = 42 ∨ f = 43 ∨ f = 44 ∨ f = 48 ∨ f = 49 then [.box []] else [] }
set_option maxHeartbeats 4000000 in
theorem f11_ok (t:ByteArray) (ht:t.size ≤ 1073741824):FnR Tryz.prog 11 [.v (.str t)] (.tup [.agg [.ow 3 1 ((rdDlM t).1).base.length (flat ((rdDlM t).1).base),.ow 3 1 ((rdDlM t).1).know.length (flat ((rdDlM t).1).know),.ow 104 3 ((rdDlM t).1).tallies.length (flat ((rdDlM t).1).tallies),.ow 98 6 ((rdDlM t).1).lives.length (flat ((rdDlM t).1).lives),.ow 60 2 ((rdDlM t).1).dead.length (flat ((rdDlM t).1).dead),.ow 100 8 ((rdDlM t).1).cs.length (flat ((rdDlM t).1).cs)],.v (.bool ((rdDlM t).2))]):=by
  have hu:=unS_size t
  have hz:(scan0 t).t.size ≤ 1073741824:=by simp only [scan0]; omega
  have hp:0 ≤ (scan0 t).pos:=by simp [scan0]
  have e1:((knowM (scan0 t)).2).t = (scan0 t).t:=knowM_t _
  have p1:0 ≤ ((knowM (scan0 t)).2).pos:=kn_pos hp 3
  have e2:((knowM (knowM (scan0 t)).2).2).t = (scan0 t).t:=by rw [knowM_t _,e1]
  have p2:0 ≤ ((knowM (knowM (scan0 t)).2).2).pos:=kn_pos p1 3
  have e3:((liM talM (knowM (knowM (scan0 t)).2).2).2).t = (scan0 t).t:=by rw [liM_t talM_t,e2]
  have p3:0 ≤ ((liM talM (knowM (knowM (scan0 t)).2).2).2).pos:=liM_pos talM_pos p2
  have e4:((liM (liveM flagM) (liM talM (knowM (knowM (scan0 t)).2).2).2).2).t = (scan0 t).t:=by rw [liM_t (liveM_t flagM_t),e3]
  have p4:0 ≤ ((liM (liveM flagM) (liM talM (knowM (knowM (scan0 t)).2).2).2).2).pos:=liM_pos (liveM_pos fun _ => flagM_pos) p3
  have e5:((liM dotM (liM (liveM flagM) (liM talM (knowM (knowM (scan0 t)).2).2).2).2).2).t = (scan0 t).t:=by rw [liM_t dotM_t,e4]
  have p5:0 ≤ ((liM dotM (liM (liveM flagM) (liM talM (knowM (knowM (scan0 t)).2).2).2).2).2).pos:=liM_pos (fun _ => dotM_pos) p4
  have c0:=f41_ok (scan0 t) hz
  have c1:=f41_ok ((knowM (scan0 t)).2) (by rw [e1]; exact hz)
  have c2:=f42_ok ((knowM (knowM (scan0 t)).2).2) (by rw [e2]; exact hz) p2
  have c3:=f43_ok ((liM talM (knowM (knowM (scan0 t)).2).2).2) (by rw [e3]; exact hz) p3
  have c4:=f48_ok ((liM (liveM flagM) (liM talM (knowM (knowM (scan0 t)).2).2).2).2) (by rw [e4]; exact hz)
  have c6:=f44_ok ((liM dotM (liM (liveM flagM) (liM talM (knowM (knowM (scan0 t)).2).2).2).2).2) (by rw [e5]; exact hz) p5
  obtain ⟨N,hN,hN2⟩:=cntM_N ((liM (liveM flagM) (liM talM (knowM (knowM (scan0 t)).2).2).2).2)
  have hNt:(cntM ((liM (liveM flagM) (liM talM (knowM (knowM (scan0 t)).2).2).2).2)).1.toNat = N:=by omega
  have c5:∀ i:Nat,FnW Tryz.prog 49 [.ptr [.str ((lsM dotM (cntM ((liM (liveM flagM) (liM talM (knowM (knowM (scan0 t)).2).2).2).2)).2 i).2).t,.int .i64 ((lsM dotM (cntM ((liM (liveM flagM) (liM talM (knowM (knowM (scan0 t)).2).2).2).2)).2 i).2).pos,.bool ((lsM dotM (cntM ((liM (liveM flagM) (liM talM (knowM (knowM (scan0 t)).2).2).2).2)).2 i).2).bad]] (.agg [.int .i64 ((dotM (lsM dotM (cntM ((liM (liveM flagM) (liM talM (knowM (knowM (scan0 t)).2).2).2).2)).2 i).2).1).rep,.int .i64 ((dotM (lsM dotM (cntM ((liM (liveM flagM) (liM talM (knowM (knowM (scan0 t)).2).2).2).2)).2 i).2).1).seq]) [.ptr [.str ((dotM (lsM dotM (cntM ((liM (liveM flagM) (liM talM (knowM (knowM (scan0 t)).2).2).2).2)).2 i).2).2).t,.int .i64 ((dotM (lsM dotM (cntM ((liM (liveM flagM) (liM talM (knowM (knowM (scan0 t)).2).2).2).2)).2 i).2).2).pos,.bool ((dotM (lsM dotM (cntM ((liM (liveM flagM) (liM talM (knowM (knowM (scan0 t)).2).2).2).2)).2 i).2).2).bad]]:=fun i => f49_ok _ (by rw [lsM_t dotM_t,cntM_t,e4]; exact hz)
  rw [hN] at c4
  have hD:liM dotM ((liM (liveM flagM) (liM talM (knowM (knowM (scan0 t)).2).2).2).2) = lsM dotM (cntM ((liM (liveM flagM) (liM talM (knowM (knowM (scan0 t)).2).2).2).2)).2 N:=liM_N hNt
  have hbs:∀ s:GScan,s.bad = true → lsM dotM s N = lsM dotM s N:=fun _ _ => rfl
  simp only [← liM_def] at c2 c3 c6
  have ho:=dlM_Ok (scan0 t)
  unfold rdDlM
  simp only [dlM] at ho ⊢
  clear e1 e2 e3 e4 e5 p1 p2 p3 p4 p5 hp hz hbs
  generalize knowM (scan0 t) = K at *
  generalize knowM K.2 = Q at *
  generalize liM talM Q.2 = L at *
  generalize liM (liveM flagM) L.2 = M at *
  generalize cntM M.2 = B at *
  rw [hD] at ho c6 ⊢
  generalize hE:liM (cellM flagM) (lsM dotM B.2 N).2 = E at *
  obtain ⟨l,⟨nt,np,nb⟩⟩:=E
  simp only at *
  refine FnW.of_AW TryzT_ok 0 (fn:=Tryz.f11) (by kernel_rfl) rfl (by kernel_rfl) rfl rfl rfl ?_; refine AW_of h11 TryzT_ok (by kernel_rfl) ?_
  simp -dsimp
  refine ACallK_of (f40_ok _ ht) ?_
  simp -dsimp
  refine ACallW_go ?_
  refine ACallC_go (fun us => c0) ?_
  simp -dsimp
  refine ACallW_go ?_
  refine ACallC_go (fun us => c1) ?_
  simp -dsimp
  refine ACallW_go ?_
  refine ACallC_go (fun us => c2) ?_
  simp -dsimp
  refine ACallW_go ?_
  refine ACallC_go (fun us => c3) ?_
  simp -dsimp
  refine ACallW_go ?_
  refine ACallC_go (fun us => c4) ?_
  simp -dsimp
  refine AWh_loop (fun i:Nat => i ≤ N) (fun i => mkE [(2,.box 128 0),(4,.c (.str (unS t))),(6,.box 1216 0),(7,.box 448 0),(35,.c (.int .i64 N)),(36,.c (.int .i64 i))] [(2624,.arr 0 60 2 (lsM dotM B.2 i).1.length (flat (lsM dotM B.2 i).1)),(128,.box [.nil,.nil,.nil,.nil,.nil,.nil]),(1216,.box [.c (.str (lsM dotM B.2 i).2.t),.c (.int .i64 (lsM dotM B.2 i).2.pos),.c (.bool (lsM dotM B.2 i).2.bad)]),(448,.box [.arr 1408,.arr 1600,.arr 1792,.arr 1984,.arr 2624,.nil]),(1408,.arr 0 3 1 K.1.length (flat K.1)),(1600,.arr 0 3 1 Q.1.length (flat Q.1)),(1792,.arr 0 104 3 L.1.length (flat L.1)),(1984,.arr 0 98 6 M.1.length (flat M.1))]) (fun i => N - i) 0 (Wk_toA [2,4,6,7,35,36] [(128,128),(1216,1216),(448,448),(1408,1408),(1600,1600),(1792,1792),(1984,1984)] [.cell 448 4 2624 60 2] (by decide) (by decide) (by simp [lsM])) (by simp) ?_
  rintro i hi
  have hl:=lsM_len (r:=dotM) B.2 i
  refine AW_of h11 TryzT_ok (by kernel_rfl) ?_
  rcases Nat.lt_or_ge i N with h1 | h1
  · simp -dsimp [h1]
    have h0:=c5 i
    refine ACallW_go ?_
    refine ACallC_go (fun us => h0) ?_
    simp -dsimp [h1]
    refine ⟨by simp [capMax]; omega,?_⟩
    exact Back_of (i + 1) [2,4,6,7,35,36] [(2624,2816),(128,128),(1216,1216),(448,448),(1408,1408),(1600,1600),(1792,1792),(1984,1984)] rfl rfl (by simp [lsM]; rw [wrap64 (by omega) (by omega)]) (by omega) (by omega)
  · obtain rfl:i = N:=by omega
    simp -dsimp
    refine ACallW_go ?_
    refine ACallC_go (fun us => c6) ?_
    cases nb
    · by_cases hz:np = (unS t).size
      · have hz2:(np != ((unS t).size:Int)) = false:=by simp [hz]
        simp -dsimp [hz2]
        refine ACallK_of (f46_ok _ ho) ?_
        cases hk:deltaOk (⟨K.1,Q.1,L.1,M.1,(lsM dotM B.2 i).1,l⟩:GDelta)
        · simp -dsimp
          simp [resDM,hk,GDelta.empty]
        · simp -dsimp
          simp [resDM,hk,hz]
      · have hz2:(np != ((unS t).size:Int)) = true:=by simp [hz]
        simp -dsimp [hz2]
        simp [resDM,hz,GDelta.empty]
    · simp -dsimp
      simp [resDM,GDelta.empty]
end Am
namespace Am
open Go Go.Proofs
open Cel (cells)
set_option maxRecDepth 100000
def GState.empty:GState:=⟨[],[],[],[]⟩
def stM (s:GScan):GState × GScan :=
  (⟨(knowM s).1,(liM talM (knowM s).2).1,(liM (liveM flagM) (liM talM (knowM s).2).2).1,(liM (cellM flagM) (liM (liveM flagM) (liM talM (knowM s).2).2).2).1⟩,(liM (cellM flagM) (liM (liveM flagM) (liM talM (knowM s).2).2).2).2)
def stS (s:GScan):GState × GScan :=
  (⟨(knowM s).1,(liS talM (knowM s).2).1,(liS (liveM boolS) (liS talM (knowM s).2).2).1,(liS (cellM boolS) (liS (liveM boolS) (liS talM (knowM s).2).2).2).1⟩,(liS (cellM boolS) (liS (liveM boolS) (liS talM (knowM s).2).2).2).2)
theorem stM_rdr:Rdr stM stateS:=(knowM_rdr.two ((liM_rdr talM_rdr).two ((liM_rdr (liveM_rdr flagM_rdr)).two (liM_rdr (cellM_rdr flagM_rdr))))).to (fun x => ⟨x.1,x.2.1,x.2.2.1,x.2.2.2⟩) (fun s => rfl) (fun x => rfl)
theorem st_eq (s:GScan) (f:Fine s) (h:(stM s).2.bad = false ∨ (stS s).2.bad = false):stM s = stS s:=by
  have f1:=knowM_rdr.f s f
  have f2:=(liM_rdr talM_rdr).f _ f1
  have f3:=(liM_rdr (liveM_rdr flagM_rdr)).f _ f2
  have e1:=liM_liS talM_rdr (q:=talM) (fun s _ _ => rfl) _ f1
  have e2:=liM_liS (liveM_rdr flagM_rdr) (q:=liveM boolS) live_eq _ f2
  have e3:=liM_liS (cellM_rdr flagM_rdr) (q:=cellM boolS) cell_eq _ f3
  rcases h with h | h
  · have g3:=(liM_rdr (cellM_rdr flagM_rdr)).g _ f3 h
    have g2:=(liM_rdr (liveM_rdr flagM_rdr)).g _ f2 g3.b
    have e1:=e1 (Or.inl g2.b)
    have e2:=e2 (Or.inl g3.b)
    have e3:=e3 (Or.inl h)
    unfold stM stS
    rw [← e1,← e2,← e3]
  · have fS:∀ {α:Type} [Cel α] (r:GScan → α × GScan) (s:GScan),(∀ s,Fine s → Fine (r s).2) → Fine s → Fine (liS r s).2:=by
      intro α _ r s hr f
      have:∀ n,Fine (lsS r (cntM s).2 n).2:=by
        intro n
        induction n with
        | zero => exact cntM_fine f
        | succ n ih =>
          rw [lsS]
          split
          · exact ih
          · exact hr _ ih
      exact this _
    have k2:=fS talM (knowM s).2 talM_rdr.f f1
    have k3:=fS (liveM boolS) _ (fun s f => by
      unfold liveM
      exact dotM_rdr.f _ (numM_rdr.f _ (shM_rdr.f _ (shM_rdr.f _ (boolS_fine _ f))))) k2
    have b3:(liS (liveM boolS) (liS talM (knowM s).2).2).2.bad = false:=liS_stuck (r:=cellM boolS) k3 h
    have b2:(liS talM (knowM s).2).2.bad = false:=liS_stuck (r:=liveM boolS) k2 b3
    have e1:=e1 (Or.inr b2)
    rw [e1] at e2 e3
    have e2:=e2 (Or.inr b3)
    rw [e2] at e3
    have e3:=e3 (Or.inr h)
    unfold stM stS
    rw [e1,e2,e3]
theorem stS_Ok (s:GScan):(stS s).1.Ok:=by
  have a1:=kn_len s 3
  have a2:=liS_len (r:=talM) (knowM s).2
  have a3:=liS_len (r:=liveM boolS) (liS talM (knowM s).2).2
  have a4:=liS_len (r:=cellM boolS) (liS (liveM boolS) (liS talM (knowM s).2).2).2
  refine ⟨?_,?_,lsS_all (fun s => ?_) _ _,?_,lsS_all (fun s => ?_) _ _,?_,lsS_all (fun s => ?_) _ _⟩
  · simp only [stS,knowM]; omega
  · simp only [stS]; omega
  · have:=shM_size s; simp only [talM,GTally.Ok]; omega
  · simp only [stS]; omega
  · have:=shM_size (boolS s).2; have:=shM_size (shM (boolS s).2).2; simp only [liveM,GLive.Ok]; omega
  · simp only [stS]; omega
  · have:=shM_size s; simp only [cellM,GCell.Ok]; omega
theorem stM_Ok (s:GScan):(stM s).1.Ok:=by
  have a1:=kn_len s 3
  have a2:=liM_len (r:=talM) (knowM s).2
  have a3:=liM_len (r:=liveM flagM) (liM talM (knowM s).2).2
  have a4:=liM_len (r:=cellM flagM) (liM (liveM flagM) (liM talM (knowM s).2).2).2
  refine ⟨?_,?_,lsM_all (fun s => ?_) _ _,?_,lsM_all (fun s => ?_) _ _,?_,lsM_all (fun s => ?_) _ _⟩
  · simp only [stM,knowM]; omega
  · simp only [stM]; omega
  · have:=shM_size s; simp only [talM,GTally.Ok]; omega
  · simp only [stM]; omega
  · have:=shM_size (flagM s).2; have:=shM_size (shM (flagM s).2).2; simp only [liveM,GLive.Ok]; omega
  · simp only [stM]; omega
  · have:=shM_size s; simp only [cellM,GCell.Ok]; omega
def resM (x:GState) (f:GScan) (t:ByteArray):GState × Bool:=if f.bad = false ∧ f.pos = (unS t).size ∧ stateOk x = true then (x,true) else (GState.empty,false)
def resS (x:GState) (f:GScan) (t:ByteArray):GState × Bool:=if f.bad = false ∧ (stateOk x = true ∧ sealOk (stateS x) = true) ∧ sealS (stateS x) = t then (x,true) else (GState.empty,false)
def rdStM (t:ByteArray):GState × Bool:=resM (stM (scan0 t)).1 (stM (scan0 t)).2 t
def rdStS (t:ByteArray):GState × Bool:=resS (stS (scan0 t)).1 (stS (scan0 t)).2 t
theorem rdSt_eq (t:ByteArray):rdStS t = rdStM t:=by
  have h:=whole_eq (ok:=stateOk) stM_rdr st_eq t
  unfold rdStM rdStS resM resS
  by_cases hc:(stS (scan0 t)).2.bad = false ∧ (stateOk (stS (scan0 t)).1 = true ∧ sealOk (stateS (stS (scan0 t)).1) = true) ∧ sealS (stateS (stS (scan0 t)).1) = t
  · rw [if_pos hc,if_pos (h.2 hc),st_eq _ (scan0_fine t) (Or.inr hc.1)]
  · rw [if_neg hc,if_neg fun h' => hc (h.1 h')]
@[simp] def h13:Hts:={ merge:=fun _ => false,lend:=fun f => if f = 55 ∨ f = 56 ∨ f = 57 ∨ f = 58 then [.box []] else [] }
set_option maxHeartbeats 4000000 in
theorem f13_ok (t:ByteArray) (ht:t.size ≤ 1073741824):FnR Tryz.prog 13 [.v (.str t)] (.tup [.agg [.ow 3 1 ((rdStS t).1).know.length (flat ((rdStS t).1).know),.ow 104 3 ((rdStS t).1).tallies.length (flat ((rdStS t).1).tallies),.ow 98 6 ((rdStS t).1).lives.length (flat ((rdStS t).1).lives),.ow 100 8 ((rdStS t).1).cs.length (flat ((rdStS t).1).cs)],.v (.bool ((rdStS t).2))]):=by
  have hu:=unS_size t
  have hz:(scan0 t).t.size ≤ 1073741824:=by simp only [scan0]; omega
  have hp:0 ≤ (scan0 t).pos:=by simp [scan0]
  have e1:((knowM (scan0 t)).2).t = (scan0 t).t:=knowM_t _
  have p1:0 ≤ ((knowM (scan0 t)).2).pos:=kn_pos hp 3
  have e2:((liS talM (knowM (scan0 t)).2).2).t = (scan0 t).t:=by rw [liS_t talM_t,e1]
  have p2:0 ≤ ((liS talM (knowM (scan0 t)).2).2).pos:=liS_pos talM_pos p1
  have e3:((liS (liveM boolS) (liS talM (knowM (scan0 t)).2).2).2).t = (scan0 t).t:=by rw [liS_t (liveM_t boolS_t),e2]
  have p3:0 ≤ ((liS (liveM boolS) (liS talM (knowM (scan0 t)).2).2).2).pos:=liS_pos (liveM_pos fun _ => boolS_pos) p2
  have c1:=f55_ok (scan0 t) hz
  have c2:=f56_ok ((knowM (scan0 t)).2) (by rw [e1]; exact hz) p1
  have c3:=f57_ok ((liS talM (knowM (scan0 t)).2).2) (by rw [e2]; exact hz) p2
  have c4:=f58_ok ((liS (liveM boolS) (liS talM (knowM (scan0 t)).2).2).2) (by rw [e3]; exact hz) p3
  simp only [← liS_def] at c2 c3 c4
  have ho:=stS_Ok (scan0 t)
  unfold rdStS
  simp only [stS] at ho ⊢
  clear e1 e2 e3 p1 p2 p3 hp hz
  generalize knowM (scan0 t) = K at *
  generalize liS talM K.2 = L at *
  generalize liS (liveM boolS) L.2 = M at *
  generalize liS (cellM boolS) M.2 = N at *
  obtain ⟨l,⟨nt,np,nb⟩⟩:=N
  simp only at *
  refine FnW.of_AW TryzT_ok 0 (fn:=Tryz.f13) (by kernel_rfl) rfl (by kernel_rfl) rfl rfl rfl ?_; refine AW_of h13 TryzT_ok (by kernel_rfl) ?_
  simp -dsimp
  refine ACallK_of (f53_ok _ ht) ?_
  simp -dsimp
  refine ACallW_go ?_
  refine ACallC_go (fun us => c1) ?_
  simp -dsimp
  refine ACallW_go ?_
  refine ACallC_go (fun us => c2) ?_
  simp -dsimp
  refine ACallW_go ?_
  refine ACallC_go (fun us => c3) ?_
  simp -dsimp
  refine ACallW_go ?_
  refine ACallC_go (fun us => c4) ?_
  simp -dsimp
  refine ACallK_of (f51_ok _ ho) ?_
  cases nb
  · cases hr:stateTextOk (⟨K.1,L.1,M.1,l⟩:GState)
    · have hx:¬ (stateOk (⟨K.1,L.1,M.1,l⟩:GState) = true ∧ sealOk (stateS (⟨K.1,L.1,M.1,l⟩:GState)) = true):=by simpa [stateTextOk] using hr
      simp -dsimp [hr]
      simp [resS,hx,GState.empty]
    · have hx:stateOk (⟨K.1,L.1,M.1,l⟩:GState) = true ∧ sealOk (stateS (⟨K.1,L.1,M.1,l⟩:GState)) = true:=by simpa [stateTextOk] using hr
      have e:stateText (⟨K.1,L.1,M.1,l⟩:GState) = sealS (stateS (⟨K.1,L.1,M.1,l⟩:GState)):=by rw [stateText,if_pos hx.1]
      rw [e]
      by_cases he:sealS (stateS (⟨K.1,L.1,M.1,l⟩:GState)) = t
      · simp -dsimp [hr,he]
        simp [resS,hx,he]
      · simp -dsimp [hr,he]
        simp [resS,hx,he,GState.empty]
  · simp -dsimp
    simp [resS,GState.empty]
@[simp] def h8:Hts:={ merge:=fun _ => false,lend:=fun f => if f = 41 ∨ f = 42 ∨ f = 43 ∨ f = 44 then [.box []] else [] }
set_option maxHeartbeats 4000000 in
theorem f8_ok (t:ByteArray) (ht:t.size ≤ 1073741824):FnR Tryz.prog 8 [.v (.str t)] (.tup [.agg [.ow 3 1 ((rdStM t).1).know.length (flat ((rdStM t).1).know),.ow 104 3 ((rdStM t).1).tallies.length (flat ((rdStM t).1).tallies),.ow 98 6 ((rdStM t).1).lives.length (flat ((rdStM t).1).lives),.ow 100 8 ((rdStM t).1).cs.length (flat ((rdStM t).1).cs)],.v (.bool ((rdStM t).2))]):=by
  have hu:=unS_size t
  have hz:(scan0 t).t.size ≤ 1073741824:=by simp only [scan0]; omega
  have hp:0 ≤ (scan0 t).pos:=by simp [scan0]
  have e1:((knowM (scan0 t)).2).t = (scan0 t).t:=knowM_t _
  have p1:0 ≤ ((knowM (scan0 t)).2).pos:=kn_pos hp 3
  have e2:((liM talM (knowM (scan0 t)).2).2).t = (scan0 t).t:=by rw [liM_t talM_t,e1]
  have p2:0 ≤ ((liM talM (knowM (scan0 t)).2).2).pos:=liM_pos talM_pos p1
  have e3:((liM (liveM flagM) (liM talM (knowM (scan0 t)).2).2).2).t = (scan0 t).t:=by rw [liM_t (liveM_t flagM_t),e2]
  have p3:0 ≤ ((liM (liveM flagM) (liM talM (knowM (scan0 t)).2).2).2).pos:=liM_pos (liveM_pos fun _ => flagM_pos) p2
  have c1:=f41_ok (scan0 t) hz
  have c2:=f42_ok ((knowM (scan0 t)).2) (by rw [e1]; exact hz) p1
  have c3:=f43_ok ((liM talM (knowM (scan0 t)).2).2) (by rw [e2]; exact hz) p2
  have c4:=f44_ok ((liM (liveM flagM) (liM talM (knowM (scan0 t)).2).2).2) (by rw [e3]; exact hz) p3
  simp only [← liM_def] at c2 c3 c4
  have ho:=stM_Ok (scan0 t)
  unfold rdStM
  simp only [stM] at ho ⊢
  clear e1 e2 e3 p1 p2 p3 hp hz
  generalize knowM (scan0 t) = K at *
  generalize liM talM K.2 = L at *
  generalize liM (liveM flagM) L.2 = M at *
  generalize liM (cellM flagM) M.2 = N at *
  obtain ⟨l,⟨nt,np,nb⟩⟩:=N
  simp only at *
  refine FnW.of_AW TryzT_ok 0 (fn:=Tryz.f8) (by kernel_rfl) rfl (by kernel_rfl) rfl rfl rfl ?_; refine AW_of h8 TryzT_ok (by kernel_rfl) ?_
  simp -dsimp
  refine ACallK_of (f40_ok _ ht) ?_
  simp -dsimp
  refine ACallW_go ?_
  refine ACallC_go (fun us => c1) ?_
  simp -dsimp
  refine ACallW_go ?_
  refine ACallC_go (fun us => c2) ?_
  simp -dsimp
  refine ACallW_go ?_
  refine ACallC_go (fun us => c3) ?_
  simp -dsimp
  refine ACallW_go ?_
  refine ACallC_go (fun us => c4) ?_
  cases nb
  · by_cases hz:np = (unS t).size
    · have hz2:(np != ((unS t).size:Int)) = false:=by simp [hz]
      simp -dsimp [hz2]
      refine ACallK_of (f34_ok _ ho) ?_
      rw [stateOkM_eq]
      cases hk:stateOk (⟨K.1,L.1,M.1,l⟩:GState)
      · simp -dsimp
        simp [resM,hk,GState.empty]
      · simp -dsimp
        simp [resM,hk,hz]
    · have hz2:(np != ((unS t).size:Int)) = true:=by simp [hz]
      simp -dsimp [hz2]
      simp [resM,hz,GState.empty]
  · simp -dsimp
    simp [resM,GState.empty]
end Am
