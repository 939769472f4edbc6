/- Drawn: acts,right or not. No condition. -/
import Derived.Test.YteidfkbfocdnmaaGreatT
import Derived.Test.YteidfkbfocdnmaaGreatD
import Derived.Test.YteidfkbfocdnmaaGreatV1
import Derived.Test.YteidfkbfocdnmaaGreatE16
import Derived.Test.YteidfkbfocdnmaaGreatU1
import Derived.Test.YteidfkbfocdnmaaGreatE93a
import Derived.Test.YteidfkbfocdnmaaGreatAm29
import Derived.Test.YteidfkbfocdnmaaGreatAm31
import Derived.Test.YteidfkbfocdnmaaGreatE76
import Derived.Test.YteidfkbfocdnmaaGreatAm37
set_option linter.unusedSimpArgs false
set_option linter.unusedVariables false
set_option linter.unnecessarySimpa false
set_option linter.unusedSectionVars false
namespace Am
open Go Go.Proofs
open Cel (cells)
set_option maxRecDepth 100000
def ddT (c:GCur):Int × GCur:=curN (dotD c).2 9
def ddW (c:GCur):List Int × GCur:=drawsK (ddT c).2 5 3
def ddK (c:GCur):Int × GCur:=curN (ddW c).2 7
def ddO (c:GCur):ByteArray × GCur:=curPick (ddK c).2 objs
def ddN (c:GCur):List Int:=(ddW c).1.set (dotD c).1.rep.toNat ((dotD c).1.seq - 1)
def ddY (c:GCur):ByteArray × GCur:=if spIn (1 + (ddK c).1) 2 5 = true then curPick (ddO c).2 keys else (⟨#[]⟩,(ddO c).2)
def ddV (c:GCur):Int × GCur:=if valued (1 + (ddK c).1) = true then curPick (ddY c).2 vals else (0,(ddY c).2)
def ddR (c:GCur):GDot × GCur:=if 6 ≤ 1 + (ddK c).1 then dotD (ddV c).2 else (⟨0,0⟩,(ddV c).2)
def ddKind (c:GCur):Int:=if 7 = 1 + (ddK c).1 ∧ knows (ddN c) (ddR c).1 = false then 6 else 1 + (ddK c).1
def ddRef (c:GCur):GDot:=if 6 ≤ 1 + (ddK c).1 ∧ knows (ddN c) (ddR c).1 = true then (ddR c).1 else ⟨0,0⟩
def actD (c:GCur):GAct × GCur:=(⟨(dotD c).1,1 + (ddT c).1,ddN c,ddKind c,(ddO c).1,(ddY c).1,(ddV c).1,ddRef c⟩,(ddR c).2)
theorem ddO_ok {c:GCur} (h:c.Ok):(ddO c).2.Ok:=curPick_ok (curN_ok (drawsK_ok (curN_ok (dotD_ok h) _) _ _) _) _
theorem ddY_ok {c:GCur} (h:c.Ok):(ddY c).2.Ok:=by
  unfold ddY
  split
  · exact curPick_ok (ddO_ok h) _
  · exact ddO_ok h
theorem ddV_ok {c:GCur} (h:c.Ok):(ddV c).2.Ok:=by
  unfold ddV
  split
  · exact curPick_ok (ddY_ok h) _
  · exact ddY_ok h
theorem actD_ok {c:GCur} (h:c.Ok):(actD c).2.Ok:=by
  show (ddR c).2.Ok
  unfold ddR
  split
  · exact dotD_ok (ddV_ok h)
  · exact ddV_ok h
theorem ddN_len (c:GCur):(ddN c).length = 3:=by simp [ddN,ddW,drawsK_len]
theorem actD_Ok (c:GCur):(actD c).1.Ok:=by
  have h1:(ddO c).1.size ≤ 8:=(objs_ok _).2
  have h2:(ddY c).1.size ≤ 8:=by
    unfold ddY
    split
    · exact (keys_ok _).2
    · exact Nat.zero_le _
  simp only [GAct.Ok,actD,ddN_len]
  omega
@[simp] def h390:Hts:={ merge:=fun _ => false,mergeF:=fun _ => false,lend:=fun f => if f = 160 then [.box [],.lend] else if f = 431 || f = 117 || f = 324 || f = 133 || f = 134 then [.box []] else [] }
set_option maxHeartbeats 8000000 in
theorem f390_ok (c:GCur) (hc:c.Ok):FnW Tryz.prog 390 [.ptr [.im c.b.length (flat c.b),.int .i64 c.i,.int .i64 c.h]] (.agg [.int .i64 ((actD c).1).dot.rep,.int .i64 ((actD c).1).dot.seq,.int .i64 ((actD c).1).time,.ow 3 1 ((actD c).1).knew.length (flat ((actD c).1).knew),.int .i64 ((actD c).1).kind,.str ((actD c).1).obj,.str ((actD c).1).key,.int .i64 ((actD c).1).val,.int .i64 ((actD c).1).ref.rep,.int .i64 ((actD c).1).ref.seq]) [.ptr [.im ((actD c).2).b.length (flat ((actD c).2).b),.int .i64 ((actD c).2).i,.int .i64 ((actD c).2).h]]:=by
  have b1:=curN_bd c (n:=3) (by decide)
  have b2:=curN_bd (curN c 3).2 (n:=5) (by decide)
  have b3:=curN_bd (dotD c).2 (n:=9) (by decide)
  have b4:=curN_bd (ddW c).2 (n:=7) (by decide)
  have dr:(dotD c).1.rep = (curN c 3).1:=rfl
  have ds:(dotD c).1.seq = 1 + (curN (curN c 3).2 5).1:=rfl
  obtain ⟨ρ,hρ⟩:=Int.eq_ofNat_of_zero_le (show 0 ≤ (dotD c).1.rep by omega)
  have hl:(drawsK (curN (dotD c).2 9).2 5 3).1.length = 3:=drawsK_len _ _ _
  have hρ3:ρ < (drawsK (curN (dotD c).2 9).2 5 3).1.length:=by rw [hl]; omega
  have w1:IntKind.i64.wrap (1 + (curN (dotD c).2 9).1) = 1 + (curN (dotD c).2 9).1:=wrap64 (by omega) (by omega)
  have w2:IntKind.i64.wrap ((dotD c).1.seq - 1) = (dotD c).1.seq - 1:=wrap64 (by omega) (by omega)
  have c1:(dotD c).2.Ok:=dotD_ok hc
  have c2:(curN (dotD c).2 9).2.Ok:=curN_ok c1 _
  have c3:(drawsK (curN (dotD c).2 9).2 5 3).2.Ok:=drawsK_ok c2 _ _
  have hN:ddN c = (drawsK (curN (dotD c).2 9).2 5 3).1.set ρ ((dotD c).1.seq - 1):=by simp [ddN,ddW,ddT,hρ]
  have hNl:=ddN_len c
  have hNl':(ddN c).length = (drawsK (curN (dotD c).2 9).2 5 3).1.length:=by rw [hNl,hl]
  refine FnW.of_AW TryzT_ok 1 (fn:=Tryz.f390) (by kernel_rfl) rfl (by kernel_rfl) rfl rfl rfl ?_; refine AW_of h390 TryzT_ok (by kernel_rfl) ?_
  simp -dsimp
  refine ACallW_go ?_
  refine ACallC_go (fun us => f431_ok c hc) ?_
  simp -dsimp [w1]
  refine ACallW_go ?_
  refine ACallC_go (fun us => f117_ok (dotD c).2 c1 9) ?_
  simp -dsimp [w1]
  refine ACallW_go ?_
  refine ACallC_go (fun us => f324_ok (curN (dotD c).2 9).2 c2) ?_
  simp -dsimp [w1]
  refine ACallW_go ?_
  refine ACallC_go (fun us => f117_ok (drawsK (curN (dotD c).2 9).2 5 3).2 c3 7) ?_
  simp -dsimp [w1]
  have key:(curN (drawsK (curN (dotD c).2 9).2 5 3).2 7).1 = 0 ∨ (curN (drawsK (curN (dotD c).2 9).2 5 3).2 7).1 = 1 ∨ (curN (drawsK (curN (dotD c).2 9).2 5 3).2 7).1 = 2 ∨ (curN (drawsK (curN (dotD c).2 9).2 5 3).2 7).1 = 3 ∨ (curN (drawsK (curN (dotD c).2 9).2 5 3).2 7).1 = 4 ∨ (curN (drawsK (curN (dotD c).2 9).2 5 3).2 7).1 = 5 ∨ (curN (drawsK (curN (dotD c).2 9).2 5 3).2 7).1 = 6:=by
    have:0 ≤ (curN (drawsK (curN (dotD c).2 9).2 5 3).2 7).1 ∧ (curN (drawsK (curN (dotD c).2 9).2 5 3).2 7).1 < 7:=b4
    omega
  have eK:(ddK c).1 = (curN (drawsK (curN (dotD c).2 9).2 5 3).2 7).1:=rfl
  refine ACallW_go ?_
  refine ACallC_of (fun us => f133_ok (ddK c).2 (curN_ok c3 _)) (by intro us; simp -dsimp [ddK,ddW,ddT]; exact ⟨rfl,rfl⟩) ?_
  rcases key with e | e | e | e | e | e | e
  · have s1:spIn 1 2 5 = false:=by decide
    have s2:valued 1 = true:=by decide
    have wk:IntKind.i64.wrap (1:Int) = 1:=by decide
    rw [e] at eK
    have s1':spIn (1 + (0:Int)) 2 5 = false:=by decide
    have s2':valued (1 + (0:Int)) = true:=by decide
    simp -dsimp [e,wk,hρ,hρ3,ne_of_lt hρ3,w2]
    repeat (first|refine ⟨by omega,?_⟩|refine ⟨by simp [capMax];omega,?_⟩|refine ⟨⟨by omega,by omega⟩,?_⟩)
    rw [← hN]
    refine ACallK_of (f281_ok _) ?_
    simp -dsimp [s1]
    refine ACallK_of (f282_ok _) ?_
    simp -dsimp [s2]
    refine ACallW_go ?_
    refine ACallC_of (fun us => f160_ok (ddO c).2 (ddO_ok hc) vals (by simp [vals])) (by intro us; simp -dsimp [ddO,ddK,ddW,ddT]; exact ⟨rfl,rfl⟩) ?_
    simp -dsimp
    simp [actD,ddKind,ddRef,ddR,ddV,ddY,ddO,ddK,ddW,ddT,e,s1',s2',s1,s2,hρ,hl,hNl]
  · have s1:spIn 2 2 5 = true:=by decide
    have s2:valued 2 = false:=by decide
    have wk:IntKind.i64.wrap (2:Int) = 2:=by decide
    rw [e] at eK
    have s1':spIn (1 + (1:Int)) 2 5 = true:=by decide
    have s2':valued (1 + (1:Int)) = false:=by decide
    simp -dsimp [e,wk,hρ,hρ3,ne_of_lt hρ3,w2]
    repeat (first|refine ⟨by omega,?_⟩|refine ⟨by simp [capMax];omega,?_⟩|refine ⟨⟨by omega,by omega⟩,?_⟩)
    rw [← hN]
    refine ACallK_of (f281_ok _) ?_
    simp -dsimp [s1]
    refine ACallW_go ?_
    refine ACallC_of (fun us => f134_ok (ddO c).2 (ddO_ok hc)) (by intro us; simp -dsimp [ddO,ddK,ddW,ddT]; exact ⟨rfl,rfl⟩) ?_
    simp -dsimp
    refine ACallK_of (f282_ok _) ?_
    simp -dsimp [s2]
    simp [actD,ddKind,ddRef,ddR,ddV,ddY,ddO,ddK,ddW,ddT,e,s1',s2',s1,s2,hρ,hl,hNl]
  · have s1:spIn 3 2 5 = true:=by decide
    have s2:valued 3 = false:=by decide
    have wk:IntKind.i64.wrap (3:Int) = 3:=by decide
    rw [e] at eK
    have s1':spIn (1 + (2:Int)) 2 5 = true:=by decide
    have s2':valued (1 + (2:Int)) = false:=by decide
    simp -dsimp [e,wk,hρ,hρ3,ne_of_lt hρ3,w2]
    repeat (first|refine ⟨by omega,?_⟩|refine ⟨by simp [capMax];omega,?_⟩|refine ⟨⟨by omega,by omega⟩,?_⟩)
    rw [← hN]
    refine ACallK_of (f281_ok _) ?_
    simp -dsimp [s1]
    refine ACallW_go ?_
    refine ACallC_of (fun us => f134_ok (ddO c).2 (ddO_ok hc)) (by intro us; simp -dsimp [ddO,ddK,ddW,ddT]; exact ⟨rfl,rfl⟩) ?_
    simp -dsimp
    refine ACallK_of (f282_ok _) ?_
    simp -dsimp [s2]
    simp [actD,ddKind,ddRef,ddR,ddV,ddY,ddO,ddK,ddW,ddT,e,s1',s2',s1,s2,hρ,hl,hNl]
  · have s1:spIn 4 2 5 = true:=by decide
    have s2:valued 4 = true:=by decide
    have wk:IntKind.i64.wrap (4:Int) = 4:=by decide
    rw [e] at eK
    have s1':spIn (1 + (3:Int)) 2 5 = true:=by decide
    have s2':valued (1 + (3:Int)) = true:=by decide
    simp -dsimp [e,wk,hρ,hρ3,ne_of_lt hρ3,w2]
    repeat (first|refine ⟨by omega,?_⟩|refine ⟨by simp [capMax];omega,?_⟩|refine ⟨⟨by omega,by omega⟩,?_⟩)
    rw [← hN]
    refine ACallK_of (f281_ok _) ?_
    simp -dsimp [s1]
    refine ACallW_go ?_
    refine ACallC_of (fun us => f134_ok (ddO c).2 (ddO_ok hc)) (by intro us; simp -dsimp [ddO,ddK,ddW,ddT]; exact ⟨rfl,rfl⟩) ?_
    simp -dsimp
    refine ACallK_of (f282_ok _) ?_
    simp -dsimp [s2]
    refine ACallW_go ?_
    refine ACallC_of (fun us => f160_ok (curPick (ddO c).2 keys).2 (curPick_ok (ddO_ok hc) _) vals (by simp [vals])) (by intro us; simp -dsimp [ddO,ddK,ddW,ddT]; exact ⟨rfl,rfl⟩) ?_
    simp -dsimp
    simp [actD,ddKind,ddRef,ddR,ddV,ddY,ddO,ddK,ddW,ddT,e,s1',s2',s1,s2,hρ,hl,hNl]
  · have s1:spIn 5 2 5 = true:=by decide
    have s2:valued 5 = false:=by decide
    have wk:IntKind.i64.wrap (5:Int) = 5:=by decide
    rw [e] at eK
    have s1':spIn (1 + (4:Int)) 2 5 = true:=by decide
    have s2':valued (1 + (4:Int)) = false:=by decide
    simp -dsimp [e,wk,hρ,hρ3,ne_of_lt hρ3,w2]
    repeat (first|refine ⟨by omega,?_⟩|refine ⟨by simp [capMax];omega,?_⟩|refine ⟨⟨by omega,by omega⟩,?_⟩)
    rw [← hN]
    refine ACallK_of (f281_ok _) ?_
    simp -dsimp [s1]
    refine ACallW_go ?_
    refine ACallC_of (fun us => f134_ok (ddO c).2 (ddO_ok hc)) (by intro us; simp -dsimp [ddO,ddK,ddW,ddT]; exact ⟨rfl,rfl⟩) ?_
    simp -dsimp
    refine ACallK_of (f282_ok _) ?_
    simp -dsimp [s2]
    simp [actD,ddKind,ddRef,ddR,ddV,ddY,ddO,ddK,ddW,ddT,e,s1',s2',s1,s2,hρ,hl,hNl]
  · have s1:spIn 6 2 5 = false:=by decide
    have s2:valued 6 = true:=by decide
    have wk:IntKind.i64.wrap (6:Int) = 6:=by decide
    rw [e] at eK
    have s1':spIn (1 + (5:Int)) 2 5 = false:=by decide
    have s2':valued (1 + (5:Int)) = true:=by decide
    simp -dsimp [e,wk,hρ,hρ3,ne_of_lt hρ3,w2]
    repeat (first|refine ⟨by omega,?_⟩|refine ⟨by simp [capMax];omega,?_⟩|refine ⟨⟨by omega,by omega⟩,?_⟩)
    rw [← hN]
    refine ACallK_of (f281_ok _) ?_
    simp -dsimp [s1]
    refine ACallK_of (f282_ok _) ?_
    simp -dsimp [s2]
    refine ACallW_go ?_
    refine ACallC_of (fun us => f160_ok (ddO c).2 (ddO_ok hc) vals (by simp [vals])) (by intro us; simp -dsimp [ddO,ddK,ddW,ddT]; exact ⟨rfl,rfl⟩) ?_
    simp -dsimp
    refine ACallW_go ?_
    refine ACallC_of (fun us => f431_ok (curPick (ddO c).2 vals).2 (curPick_ok (ddO_ok hc) _)) (by intro us; simp -dsimp [ddO,ddK,ddW,ddT]; exact ⟨rfl,rfl⟩) ?_
    simp -dsimp
    have hkn:=f17_ok (ddN c) (dotD (curPick (ddO c).2 vals).2).1 (by omega)
    rw [hNl'] at hkn
    refine ACallK_of (hkn) ?_
    cases q:knows (ddN c) (dotD (curPick (ddO c).2 vals).2).1
    all_goals
      have q2:=q
      simp only [ddO,ddK,ddW,ddT] at q2
      simp -dsimp
      simp [actD,ddKind,ddRef,ddR,ddV,ddY,ddO,ddK,ddW,ddT,e,s1',s2',s1,s2,hρ,hl,hNl,q2]
  · have s1:spIn 7 2 5 = false:=by decide
    have s2:valued 7 = false:=by decide
    have wk:IntKind.i64.wrap (7:Int) = 7:=by decide
    rw [e] at eK
    have s1':spIn (1 + (6:Int)) 2 5 = false:=by decide
    have s2':valued (1 + (6:Int)) = false:=by decide
    simp -dsimp [e,wk,hρ,hρ3,ne_of_lt hρ3,w2]
    repeat (first|refine ⟨by omega,?_⟩|refine ⟨by simp [capMax];omega,?_⟩|refine ⟨⟨by omega,by omega⟩,?_⟩)
    rw [← hN]
    refine ACallK_of (f281_ok _) ?_
    simp -dsimp [s1]
    refine ACallK_of (f282_ok _) ?_
    simp -dsimp [s2]
    refine ACallW_go ?_
    refine ACallC_of (fun us => f431_ok (ddO c).2 (ddO_ok hc)) (by intro us; simp -dsimp [ddO,ddK,ddW,ddT]; exact ⟨rfl,rfl⟩) ?_
    simp -dsimp
    have hkn:=f17_ok (ddN c) (dotD (ddO c).2).1 (by omega)
    rw [hNl'] at hkn
    refine ACallK_of (hkn) ?_
    cases q:knows (ddN c) (dotD (ddO c).2).1
    all_goals
      have q2:=q
      simp only [ddO,ddK,ddW,ddT] at q2
      simp -dsimp
      simp [actD,ddKind,ddRef,ddR,ddV,ddY,ddO,ddK,ddW,ddT,e,s1',s2',s1,s2,hρ,hl,hNl,q2]
def actM (k y:Int) (a:GAct):GAct :=
  if k = 0 then { a with dot:=⟨a.dot.rep,y.tmod 7⟩ }
  else if k = 1 then { a with time:=nth ([0,10000,10001]:List Int) (y.tmod 3).toNat }
  else if k = 2 then { a with kind:=y.tmod 10 }
  else if k = 3 then { a with key:=nth ([⟨#[]⟩,⟨#[120]⟩,⟨#[88]⟩]:List ByteArray) (y.tmod 3).toNat }
  else if k = 4 then { a with val:=nth ([-1,5,1000000]:List Int) (y.tmod 3).toNat }
  else if k = 5 then { a with ref:=⟨y.tmod 4,y.tmod 3⟩ }
  else if k = 6 then { a with knew:=a.knew ++ [1] }
  else a
def anyA (c:GCur):GAct × GCur:=(actM (curN c 12).1 (curN (curN c 12).2 60).1 (actD (curN (curN c 12).2 60).2).1,(actD (curN (curN c 12).2 60).2).2)
theorem anyA_ok {c:GCur} (h:c.Ok):(anyA c).2.Ok:=actD_ok (curN_ok (curN_ok h _) _)
theorem anyA_Ok (c:GCur):(anyA c).1.Ok:=by
  have h:=actD_Ok (curN (curN c 12).2 60).2
  have hb:=curN_bd (curN c 12).2 (n:=60) (by decide)
  have hl:(actD (curN (curN c 12).2 60).2).1.knew.length = 3:=ddN_len _
  have t3:=tmod_bd hb.1 (n:=3) (by decide)
  show (actM (curN c 12).1 (curN (curN c 12).2 60).1 (actD (curN (curN c 12).2 60).2).1).Ok
  simp only [GAct.Ok] at h ⊢
  unfold actM
  split
  · exact h
  split
  · exact h
  split
  · exact h
  split
  · refine ⟨h.1,h.2.1,?_⟩
    have hm:nth ([⟨#[]⟩,⟨#[120]⟩,⟨#[88]⟩]:List ByteArray) ((curN (curN c 12).2 60).1.tmod 3).toNat ∈ ([⟨#[]⟩,⟨#[120]⟩,⟨#[88]⟩]:List ByteArray):=nth_mem (by simp; omega)
    simp only [List.mem_cons,List.not_mem_nil,or_false] at hm
    simp only
    rcases hm with e | e | e <;> rw [e] <;> decide
  split
  · exact h
  split
  · exact h
  split
  · refine ⟨by simp only [List.length_append,List.length_singleton]; omega,h.2⟩
  · exact h
@[simp] def h318:Hts:={ merge:=fun _ => false,mergeF:=fun _ => false,lend:=fun f => if f = 117 || f = 390 then [.box []] else [] }
set_option maxHeartbeats 8000000 in
theorem f318_ok (c:GCur) (hc:c.Ok):FnW Tryz.prog 318 [.ptr [.im c.b.length (flat c.b),.int .i64 c.i,.int .i64 c.h]] (.agg [.int .i64 ((anyA c).1).dot.rep,.int .i64 ((anyA c).1).dot.seq,.int .i64 ((anyA c).1).time,.ow 3 1 ((anyA c).1).knew.length (flat ((anyA c).1).knew),.int .i64 ((anyA c).1).kind,.str ((anyA c).1).obj,.str ((anyA c).1).key,.int .i64 ((anyA c).1).val,.int .i64 ((anyA c).1).ref.rep,.int .i64 ((anyA c).1).ref.seq]) [.ptr [.im ((anyA c).2).b.length (flat ((anyA c).2).b),.int .i64 ((anyA c).2).i,.int .i64 ((anyA c).2).h]]:=by
  have hk:=curN_bd c (n:=12) (by decide)
  have hy:=curN_bd (curN c 12).2 (n:=60) (by decide)
  have hO:=actD_Ok (curN (curN c 12).2 60).2
  have d1:(anyA c).1 = actM (curN c 12).1 (curN (curN c 12).2 60).1 (actD (curN (curN c 12).2 60).2).1:=rfl
  have d2:(anyA c).2 = (actD (curN (curN c 12).2 60).2).2:=rfl
  have hkl:(actD (curN (curN c 12).2 60).2).1.knew.length = 3:=ddN_len _
  rw [d1,d2]
  refine FnW.of_AW TryzT_ok 1 (fn:=Tryz.f318) (by kernel_rfl) rfl (by kernel_rfl) rfl rfl rfl ?_; refine AW_of h318 TryzT_ok (by kernel_rfl) ?_
  simp -dsimp
  refine ACallW_go ?_
  refine ACallC_go (fun us => f117_ok c hc 12) ?_
  simp -dsimp
  refine ACallW_go ?_
  refine ACallC_go (fun us => f117_ok (curN c 12).2 (curN_ok hc _) 60) ?_
  simp -dsimp
  refine ACallW_go ?_
  refine ACallC_go (fun us => f390_ok (curN (curN c 12).2 60).2 (curN_ok (curN_ok hc _) _)) ?_
  simp -dsimp
  refine ACallK_of (f235_ok (actD (curN (curN c 12).2 60).2).1 hO) ?_
  generalize (actD (curN (curN c 12).2 60).2).1 = a at *
  generalize (actD (curN (curN c 12).2 60).2).2 = c1 at *
  generalize (curN (curN c 12).2 60).1 = y at *
  generalize (curN c 12).1 = k at *
  have tm:∀ n:Int,0 < n → ∃ m:Nat,y.tmod n = m ∧ (m:Int) < n:=fun n hn => by
    have:=tmod_bd hy.1 hn
    exact ⟨(y.tmod n).toNat,by omega,by omega⟩
  by_cases k0:k = 0
  · subst k0
    simp -dsimp
    simp [actM]
  by_cases k1:k = 1
  · obtain ⟨m,e3,m3⟩:=tm 3 (by omega)
    subst k1
    obtain h0 | h0 | h0:m = 0 ∨ m = 1 ∨ m = 2:=by omega
    · subst h0
      have e3:y.tmod 3 = 0:=by simpa using e3
      simp -dsimp [e3]
      simp [actM,e3,nth]
    · subst h0
      have e3:y.tmod 3 = 1:=by simpa using e3
      simp -dsimp [e3]
      simp [actM,e3,nth]
    · subst h0
      have e3:y.tmod 3 = 2:=by simpa using e3
      simp -dsimp [e3]
      simp [actM,e3,nth]
  by_cases k2:k = 2
  · subst k2
    simp -dsimp
    simp [actM]
  by_cases k3:k = 3
  · obtain ⟨m,e3,m3⟩:=tm 3 (by omega)
    subst k3
    obtain h0 | h0 | h0:m = 0 ∨ m = 1 ∨ m = 2:=by omega
    · subst h0
      have e3:y.tmod 3 = 0:=by simpa using e3
      simp -dsimp [e3]
      simp [actM,e3,nth]
    · subst h0
      have e3:y.tmod 3 = 1:=by simpa using e3
      simp -dsimp [e3]
      simp [actM,e3,nth]
    · subst h0
      have e3:y.tmod 3 = 2:=by simpa using e3
      simp -dsimp [e3]
      simp [actM,e3,nth]
  by_cases k4:k = 4
  · obtain ⟨m,e3,m3⟩:=tm 3 (by omega)
    subst k4
    obtain h0 | h0 | h0:m = 0 ∨ m = 1 ∨ m = 2:=by omega
    · subst h0
      have e3:y.tmod 3 = 0:=by simpa using e3
      simp -dsimp [e3]
      simp [actM,e3,nth]
    · subst h0
      have e3:y.tmod 3 = 1:=by simpa using e3
      simp -dsimp [e3]
      simp [actM,e3,nth]
    · subst h0
      have e3:y.tmod 3 = 2:=by simpa using e3
      simp -dsimp [e3]
      simp [actM,e3,nth]
  by_cases k5:k = 5
  · subst k5
    simp -dsimp
    simp [actM]
  by_cases k6:k = 6
  · subst k6
    simp -dsimp
    repeat (first|refine ⟨by omega,?_⟩|refine ⟨by simp [capMax];omega,?_⟩|refine ⟨⟨by omega,by omega⟩,?_⟩)
    simp [actM]
  simp -dsimp [k0,k1,k2,k3,k4,k5,k6]
  simp [actM,k0,k1,k2,k3,k4,k5,k6]
end Am
namespace Am
open Go
def stepD (rep:Int) (s:GState) (c:GCur):GState × GCur:=(if (actOf s rep (timeOf s + 1) (editD c).1).2 = 0 then (doAct s (actOf s rep (timeOf s + 1) (editD c).1).1).1 else s,(editD c).2)
def runK (rep:Int):Nat → Int → GState → GCur → GState × GCur
  | 0,_,s,c => (s,c)
  | f + 1,i,s,c => if i < (curN c 5).1 then runK rep f (i + 1) (stepD rep s (curN c 5).2).1 (stepD rep s (curN c 5).2).2 else (s,(curN c 5).2)
theorem stepD_ok {c:GCur} (h:c.Ok) (rep:Int) (s:GState):(stepD rep s c).2.Ok:=editD_ok h
theorem stepD_sok {s:GState} (h:SOK s) (rep:Int) (c:GCur):SOK (stepD rep s c).1:=by
  simp only [stepD]
  split
  · exact sok_of (doAct_sok (of_sok h))
  · exact h
theorem runK_ok (rep:Int):∀ (f:Nat) (i:Int) {s:GState} {c:GCur},SOK s → c.Ok → SOK (runK rep f i s c).1 ∧ (runK rep f i s c).2.Ok
  | 0,_,_,_,hs,hc => ⟨hs,hc⟩
  | f + 1,i,s,c,hs,hc => by
    rw [runK]
    split
    · exact runK_ok rep f (i + 1) (stepD_sok hs rep _) (stepD_ok (curN_ok hc _) rep s)
    · exact ⟨hs,curN_ok hc _⟩
def twoP (c:GCur):GState × GCur:=grownK (curN c 5).2 stateNew (1 + (curN c 5).1).toNat
def twoA (c:GCur):GState × GCur:=runK 0 5 0 (twoP c).1 (twoP c).2
def twoB (c:GCur):GState × GCur:=runK 1 5 0 (twoP c).1 (twoA c).2
theorem twoP_sok (c:GCur):SOK (twoP c).1:=grownK_sok stateNew_sok _ _
theorem twoP_ok {c:GCur} (h:c.Ok):(twoP c).2.Ok:=grownK_cur (curN_ok h _) _ _
theorem twoA_sok {c:GCur} (h:c.Ok):SOK (twoA c).1:=(runK_ok 0 5 0 (twoP_sok c) (twoP_ok h)).1
theorem twoA_ok {c:GCur} (h:c.Ok):(twoA c).2.Ok:=(runK_ok 0 5 0 (twoP_sok c) (twoP_ok h)).2
theorem twoB_ok {c:GCur} (h:c.Ok):(twoB c).2.Ok:=(runK_ok 1 5 0 (twoP_sok c) (twoA_ok h)).2
end Am
namespace Am
open Go Go.Proofs
open Cel (cells)
set_option maxRecDepth 100000
@[simp] def h269:Hts:={ merge:=fun _ => false,mergeF:=fun _ => false,own:=fun d => !(d == 28),lend:=fun f => if f = 155 then [.box []] else [],dr:=fun id => if id = 1 then [{ mn:=[640000],mb:=[15,18,7] },{ mn:=[640000],mb:=[15,18,7] },{ mb:=[7] },{ cr:=true,mb:=[7] },{ mn:=[640000],mb:=[18,7] },{ mb:=[15,7] },{ wr:=[640000],cr:=true,mb:=[7] },{ cr:=true,mb:=[7] },{ mb:=[7] },{ mb:=[7] },{ mn:=[448],mb:=[7] },{ mn:=[640000],cr:=true,mb:=[15,18,19] },{ wr:=[448] },{}] else [] }
set_option maxHeartbeats 4000000 in
theorem f269_ok (c:GCur) (hc:c.Ok) (s:GState) (hs:SOK s) (rep:Int):FnW Tryz.prog 269 [.ptr [.im c.b.length (flat c.b),.int .i64 c.i,.int .i64 c.h],.agg [.im s.know.length (flat s.know),.im s.tallies.length (flat s.tallies),.im s.lives.length (flat s.lives),.im s.cs.length (flat s.cs)],.v (.int .i64 rep)] (.agg [.im ((stepD rep s c).1).know.length (flat ((stepD rep s c).1).know),.im ((stepD rep s c).1).tallies.length (flat ((stepD rep s c).1).tallies),.im ((stepD rep s c).1).lives.length (flat ((stepD rep s c).1).lives),.im ((stepD rep s c).1).cs.length (flat ((stepD rep s c).1).cs)]) [.ptr [.im ((stepD rep s c).2).b.length (flat ((stepD rep s c).2).b),.int .i64 ((stepD rep s c).2).i,.int .i64 ((stepD rep s c).2).h],.any,.any]:=by
  have hO:=sok_Ok hs
  have hO2:=hO
  simp only [GState.Ok] at hO2
  have ht:=timeOf_bd hs
  have wt:IntKind.i64.wrap (timeOf s + 1) = timeOf s + 1:=wrap64 (by omega) (by omega)
  obtain ⟨g1,g2,g3,g4,g5⟩:=editD_good c
  have hAo:(actOf s rep (timeOf s + 1) (editD c).1).1.Ok:=actOf_ok hO (by omega) (by omega)
  refine FnW.of_AW TryzT_ok 1 (fn:=Tryz.f269) (by kernel_rfl) rfl (by kernel_rfl) rfl rfl rfl ?_; refine AW_of h269 TryzT_ok (by kernel_rfl) ?_
  simp -dsimp
  refine ACallK_of (f135_ok s (by omega)) ?_
  simp -dsimp [wt]
  refine ACallW_go ?_
  refine ACallC_go (fun us => f155_ok c hc) ?_
  simp -dsimp
  refine ACallK_of (f32_ok s rep (timeOf s + 1) (editD c).1 hO (by omega) (by omega) (by omega)) ?_
  by_cases q:(actOf s rep (timeOf s + 1) (editD c).1).2 = 0
  · simp -dsimp [q]
    refine ACallK_of (f37_ok s (actOf s rep (timeOf s + 1) (editD c).1).1 hO hAo) ?_
    simp -dsimp
    simp [stepD,q]
  · simp -dsimp [q]
    simp [stepD,q]
@[simp] def h132:Hts:={ merge:=fun _ => false,mergeF:=fun _ => false,own:=fun d => !(d == 15),lend:=fun f => if f = 117 || f = 269 then [.box []] else if f = 268 then [.box [],.lend] else [],dr:=fun id => if id = 12 then [{},{ mn:=[128] },{ mn:=[128,192] },{ wr:=[128] },{ wr:=[192] },{ wr:=[256] }] else [] }
set_option maxHeartbeats 8000000 in
theorem f132_ok (c:GCur) (hc:c.Ok):FnW Tryz.prog 132 [.ptr [.im c.b.length (flat c.b),.int .i64 c.i,.int .i64 c.h]] (.tup [.agg [.im ((twoP c).1).know.length (flat ((twoP c).1).know),.im ((twoP c).1).tallies.length (flat ((twoP c).1).tallies),.im ((twoP c).1).lives.length (flat ((twoP c).1).lives),.im ((twoP c).1).cs.length (flat ((twoP c).1).cs)],.agg [.im ((twoA c).1).know.length (flat ((twoA c).1).know),.im ((twoA c).1).tallies.length (flat ((twoA c).1).tallies),.im ((twoA c).1).lives.length (flat ((twoA c).1).lives),.im ((twoA c).1).cs.length (flat ((twoA c).1).cs)],.agg [.im ((twoB c).1).know.length (flat ((twoB c).1).know),.im ((twoB c).1).tallies.length (flat ((twoB c).1).tallies),.im ((twoB c).1).lives.length (flat ((twoB c).1).lives),.im ((twoB c).1).cs.length (flat ((twoB c).1).cs)]]) [.ptr [.im ((twoB c).2).b.length (flat ((twoB c).2).b),.int .i64 ((twoB c).2).i,.int .i64 ((twoB c).2).h]]:=by
  have hP:=twoP_sok c
  have hA:=twoA_sok hc
  have hb:=curN_bd c (n:=5) (by decide)
  obtain ⟨m,hm⟩:=Int.eq_ofNat_of_zero_le (by omega:0 ≤ 1 + (curN c 5).1)
  have w1:IntKind.i64.wrap (1 + (curN c 5).1) = m:=by rw [hm]; exact wrap64 (by omega) (by omega)
  have eP:grownK (curN c 5).2 stateNew m = twoP c:=by unfold twoP; rw [hm]; rfl
  refine FnW.of_AW TryzT_ok 1 (fn:=Tryz.f132) (by kernel_rfl) rfl (by kernel_rfl) rfl rfl rfl ?_; refine AW_of h132 TryzT_ok (by kernel_rfl) ?_
  simp -dsimp
  refine ACallK_of (f118_ok) ?_
  simp -dsimp
  refine ACallW_go ?_
  refine ACallC_go (fun us => f117_ok c hc 5) ?_
  simp -dsimp [w1]
  refine ACallW_go ?_
  refine ACallC_go (fun us => f268_ok (curN c 5).2 (curN_ok hc _) stateNew stateNew_sok m (by omega)) ?_
  rw [eP]
  simp -dsimp
  refine AWh_loop (fun q:Nat × GState × GCur => q.1 ≤ 4 ∧ SOK q.2.1 ∧ q.2.2.Ok ∧ runK 0 (5 - q.1) q.1 q.2.1 q.2.2 = twoA c) (fun q => mkE [(0,.box 640000 0),(2,.box 128 0),(3,.box 192 0),(4,.box 256 0),(5,.box 320 0),(6,.box 384 0),(7,.box 448 0),(8,.c (.int .i64 q.1))] [(640000,.box [.c (.im q.2.2.b.length (flat q.2.2.b)),.c (.int .i64 q.2.2.i),.c (.int .i64 q.2.2.h)]),(128,.box [.nil,.nil,.nil,.nil]),(192,.box [.nil,.nil,.nil,.nil]),(256,.box [.nil,.nil,.nil,.nil]),(320,.box [.c (.im ((twoP c).1).know.length (flat ((twoP c).1).know)),.c (.im ((twoP c).1).tallies.length (flat ((twoP c).1).tallies)),.c (.im ((twoP c).1).lives.length (flat ((twoP c).1).lives)),.c (.im ((twoP c).1).cs.length (flat ((twoP c).1).cs))]),(384,.box [.c (.im q.2.1.know.length (flat q.2.1.know)),.c (.im q.2.1.tallies.length (flat q.2.1.tallies)),.c (.im q.2.1.lives.length (flat q.2.1.lives)),.c (.im q.2.1.cs.length (flat q.2.1.cs))]),(448,.box [.c (.im ((twoP c).1).know.length (flat ((twoP c).1).know)),.c (.im ((twoP c).1).tallies.length (flat ((twoP c).1).tallies)),.c (.im ((twoP c).1).lives.length (flat ((twoP c).1).lives)),.c (.im ((twoP c).1).cs.length (flat ((twoP c).1).cs))])]) (fun q => 5 - q.1) (0,(twoP c).1,(twoP c).2) (Wk_to [0,2,3,4,5,6,7,8] [(640000,640000),(128,128),(192,192),(256,256),(320,320),(384,384),(448,448)] rfl rfl (by simp [twoP])) ⟨by simp,hP,twoP_ok hc,rfl⟩ ?_
  rintro ⟨i,s,d⟩ ⟨hi,hs,hd,hq⟩
  simp only at hi hs hd hq
  refine AW_of h132 TryzT_ok (by kernel_rfl) ?_
  have hb:=curN_bd d (n:=5) (by decide)
  have wi:IntKind.i64.wrap ((i:Int) + 1) = i + 1:=wrap64 (by omega) (by omega)
  obtain ⟨f,hf⟩:∃ f:Nat,5 - i = f + 1:=⟨4 - i,by omega⟩
  rw [hf,runK] at hq
  simp -dsimp
  refine ACallW_go ?_
  refine ACallC_go (fun us => f117_ok d hd 5) ?_
  rcases Int.lt_or_le (i:Int) (curN d 5).1 with h1 | h1
  · rw [if_pos h1] at hq
    simp -dsimp [h1]
    refine ACallW_go ?_
    refine ACallC_go (fun us => f269_ok (curN d 5).2 (curN_ok hd _) s hs 0) ?_
    simp -dsimp [wi]
    exact Back_of (i + 1,(stepD 0 s (curN d 5).2).1,(stepD 0 s (curN d 5).2).2) [0,2,3,4,5,6,7,8] [(640000,640000),(128,128),(192,192),(256,256),(320,320),(384,384),(448,448)] rfl rfl (by simp) ⟨by simp only; omega,stepD_sok hs _ _,stepD_ok (curN_ok hd _) _ _,by simp only; rw [← hq]; congr 1; omega⟩ (by simp only; omega)
  have h1':¬ (i:Int) < (curN d 5).1:=by omega
  rw [if_neg h1'] at hq
  simp -dsimp [h1']
  have e1:(twoA c).1 = s:=by rw [← hq]
  have e2:(twoA c).2 = (curN d 5).2:=by rw [← hq]
  rw [← e1,← e2]
  clear hq h1 h1' hf wi hb hi hs hd
  refine AWh_loop (fun q:Nat × GState × GCur => q.1 ≤ 4 ∧ SOK q.2.1 ∧ q.2.2.Ok ∧ runK 1 (5 - q.1) q.1 q.2.1 q.2.2 = twoB c) (fun q => mkE [(0,.box 640000 0),(2,.box 128 0),(3,.box 192 0),(4,.box 256 0),(5,.box 320 0),(6,.box 384 0),(7,.box 448 0),(9,.c (.int .i64 q.1))] [(640000,.box [.c (.im q.2.2.b.length (flat q.2.2.b)),.c (.int .i64 q.2.2.i),.c (.int .i64 q.2.2.h)]),(128,.box [.nil,.nil,.nil,.nil]),(192,.box [.nil,.nil,.nil,.nil]),(256,.box [.nil,.nil,.nil,.nil]),(320,.box [.c (.im ((twoP c).1).know.length (flat ((twoP c).1).know)),.c (.im ((twoP c).1).tallies.length (flat ((twoP c).1).tallies)),.c (.im ((twoP c).1).lives.length (flat ((twoP c).1).lives)),.c (.im ((twoP c).1).cs.length (flat ((twoP c).1).cs))]),(384,.box [.c (.im ((twoA c).1).know.length (flat ((twoA c).1).know)),.c (.im ((twoA c).1).tallies.length (flat ((twoA c).1).tallies)),.c (.im ((twoA c).1).lives.length (flat ((twoA c).1).lives)),.c (.im ((twoA c).1).cs.length (flat ((twoA c).1).cs))]),(448,.box [.c (.im q.2.1.know.length (flat q.2.1.know)),.c (.im q.2.1.tallies.length (flat q.2.1.tallies)),.c (.im q.2.1.lives.length (flat q.2.1.lives)),.c (.im q.2.1.cs.length (flat q.2.1.cs))])]) (fun q => 5 - q.1) (0,(twoP c).1,(twoA c).2) (Wk_to [0,2,3,4,5,6,7,9] [(640000,640000),(128,128),(192,192),(256,256),(320,320),(384,384),(448,448)] rfl rfl (by simp)) ⟨by simp,hP,twoA_ok hc,rfl⟩ ?_
  rintro ⟨i,s,d⟩ ⟨hi,hs,hd,hq⟩
  simp only at hi hs hd hq
  refine AW_of h132 TryzT_ok (by kernel_rfl) ?_
  have hb:=curN_bd d (n:=5) (by decide)
  have wi:IntKind.i64.wrap ((i:Int) + 1) = i + 1:=wrap64 (by omega) (by omega)
  obtain ⟨f,hf⟩:∃ f:Nat,5 - i = f + 1:=⟨4 - i,by omega⟩
  rw [hf,runK] at hq
  simp -dsimp
  refine ACallW_go ?_
  refine ACallC_go (fun us => f117_ok d hd 5) ?_
  rcases Int.lt_or_le (i:Int) (curN d 5).1 with h1 | h1
  · rw [if_pos h1] at hq
    simp -dsimp [h1]
    refine ACallW_go ?_
    refine ACallC_go (fun us => f269_ok (curN d 5).2 (curN_ok hd _) s hs 1) ?_
    simp -dsimp [wi]
    exact Back_of (i + 1,(stepD 1 s (curN d 5).2).1,(stepD 1 s (curN d 5).2).2) [0,2,3,4,5,6,7,9] [(640000,640000),(128,128),(192,192),(256,256),(320,320),(384,384),(448,448)] rfl rfl (by simp) ⟨by simp only; omega,stepD_sok hs _ _,stepD_ok (curN_ok hd _) _ _,by simp only; rw [← hq]; congr 1; omega⟩ (by simp only; omega)
  have h1':¬ (i:Int) < (curN d 5).1:=by omega
  rw [if_neg h1'] at hq
  simp -dsimp [h1']
  have e1:(twoB c).1 = s:=by rw [← hq]
  have e2:(twoB c).2 = (curN d 5).2:=by rw [← hq]
  rw [← e1,← e2]
  simp
end Am
namespace Am
open Go Go.Proofs
open Cel (cells)
set_option maxRecDepth 100000
end Am
namespace Am
open Go Go.Proofs
open Cel (cells)
set_option maxRecDepth 100000
noncomputable def endK (l:List GAct):Nat:=Classical.choose (roundK_end l)
noncomputable def settled (l:List GAct):GState × Int:=((roundK l (endK l)).1,(roundK l (endK l)).2.1)
end Am
namespace Am
open Go Go.Proofs
open Cel (cells)
set_option maxRecDepth 100000
end Am
namespace Am
open Go Go.Proofs
open Cel (cells)
set_option maxRecDepth 100000
@[simp] def h13:Hts:={ merge:=fun _ => false,mergeF:=fun _ => false,lend:=fun f => if f = 114 then [.box []] else [] }
end Am
