/- What changed is right: of both. No condition. -/
import Derived.Test.YteidfkbfocdnmaaGreatT
import Derived.Test.YteidfkbfocdnmaaGreatD
import Derived.Test.YteidfkbfocdnmaaGreatE2
import Derived.Test.YteidfkbfocdnmaaGreatE6
import Derived.Test.YteidfkbfocdnmaaGreatAm29
import Derived.Test.YteidfkbfocdnmaaGreatAm31
import Derived.Test.YteidfkbfocdnmaaGreatE16
set_option linter.unusedSimpArgs false
set_option linter.unusedVariables false
set_option linter.unnecessarySimpa false
set_option linter.unusedSectionVars false
namespace Am
open Go Go.Proofs
open Cel (cells)
set_option maxRecDepth 100000
def dLiv (d:GDelta) (i:Nat):Bool:=knows d.know (nth d.lives i).dot && !knows d.base (nth d.lives i).dot
def dDead (d:GDelta) (i:Nat):Bool:=knows d.base (nth d.dead i)
def dCel (d:GDelta) (i:Nat):Bool:=knows d.know (nth d.cs i).dot
def deltaOkS (d:GDelta):Bool:=knowIn d.base d.know && talliesOk d.tallies && livsOk d.lives && celsOk d.cs && dotsOk d.dead &&
  allB (dLiv d) d.lives.length && allB (dDead d) d.dead.length && allB (dCel d) d.cs.length
def eLiv (d:GDelta) (i:Nat):Bool:=!knows d.base (nth d.lives i).dot
def eDead (d:GDelta) (i:Nat):Bool:=knows d.base (nth d.dead i) && (decide (i = 0) || before (nth d.dead (i - 1)) (nth d.dead i))
def eCel (d:GDelta) (i:Nat):Bool:=((nth d.cs i).ref.rep == 0 && (nth d.cs i).ref.seq == 0) || dotOk (nth d.cs i).ref
def deltaOk (d:GDelta):Bool:=knowIn d.base d.know && talliesOk d.tallies && livKsOk d.lives d.know && celKsOk d.cs d.know && decide (d.dead.length ≤ 120) &&
  allB (eLiv d) d.lives.length && allB (eDead d) d.dead.length && allB (eCel d) d.cs.length
theorem deltaOkS_eq (d:GDelta):deltaOkS d = deltaOk d:=by
  rw [Bool.eq_iff_iff]
  simp only [deltaOkS,deltaOk,livsOk,livKsOk,celsOk,celKsOk,dotsOk,dLiv,dDead,dCel,eLiv,eDead,eCel,livAt,livKAt,celAt,celKAt,Bool.and_eq_true,allB_iff,decide_eq_true_eq,Bool.or_eq_true,Bool.not_eq_true',knows]
  grind
@[simp] def h71:Hts:={ merge:=fun _ => false,mergeF:=fun _ => false,dr:=fun id => if id = 6 then [{},{},{},{},{},{},{},{},{ cr:=true },{},{},{},{},{},{},{},{},{},{},{ cr:=true },{}] else if id = 11 then [{},{},{},{},{},{},{},{ cr:=true },{}] else if id = 16 then [{},{},{},{},{},{},{},{},{ cr:=true },{}] else [] }
set_option maxHeartbeats 4000000 in
theorem f71_ok (d:GDelta) (hd:d.Ok):FnR Tryz.prog 71 [.agg [.im d.base.length (flat d.base),.im d.know.length (flat d.know),.im d.tallies.length (flat d.tallies),.im d.lives.length (flat d.lives),.im d.dead.length (flat d.dead),.im d.cs.length (flat d.cs)]] (.v (.bool (deltaOkS d))):=by
  simp only [GDelta.Ok] at hd
  obtain ⟨o0,o1,o2,o3,o4,o5,o6,o7,o8⟩:=hd
  refine FnW.of_AW TryzT_ok 0 (fn:=Tryz.f71) (by kernel_rfl) rfl (by kernel_rfl) rfl rfl rfl ?_; refine AW_of h71 TryzT_ok (by kernel_rfl) ?_
  simp -dsimp
  refine ACallK_of (f89_ok _ _ o0 o1) ?_
  cases g1:knowIn d.base d.know
  · simp -dsimp [g1]
    simp [deltaOkS,g1]
  simp -dsimp [g1]
  refine ACallK_of (f203_ok _ o2 o3) ?_
  cases g2:talliesOk d.tallies
  · simp -dsimp [g2]
    simp [deltaOkS,g2]
  simp -dsimp [g2]
  refine ACallK_of (f204_ok _ o4 o5) ?_
  cases g3:livsOk d.lives
  · simp -dsimp [g3]
    simp [deltaOkS,g3]
  simp -dsimp [g3]
  refine ACallK_of (f205_ok _ o7 o8) ?_
  cases g4:celsOk d.cs
  · simp -dsimp [g4]
    simp [deltaOkS,g4]
  simp -dsimp [g4]
  refine ACallK_of (f206_ok _ o6) ?_
  cases g5:dotsOk d.dead
  · simp -dsimp [g5]
    simp [deltaOkS,g5]
  simp -dsimp [g5]
  refine AWh_loop (fun i:Nat => i ≤ d.lives.length ∧ allB (dLiv d) i = true) (fun i => mkE [(1,.box 64 0),(3,.c (.int .i64 i))] [(64,.box [.c (.im d.base.length (flat d.base)),.c (.im d.know.length (flat d.know)),.c (.im d.tallies.length (flat d.tallies)),.c (.im d.lives.length (flat d.lives)),.c (.im d.dead.length (flat d.dead)),.c (.im d.cs.length (flat d.cs))])]) (fun i => d.lives.length - i) 0 (Wk_to [1,3] [(64,64)] rfl rfl (by simp)) (by simp [allB]) ?_
  rintro i ⟨hi,a1⟩
  refine AW_of h71 TryzT_ok (by kernel_rfl) ?_
  rcases Nat.lt_or_ge i d.lives.length with h1 | h1
  · simp -dsimp [h1,ne_of_lt h1]
    refine ⟨by omega,?_⟩
    refine ACallK_of (f17_ok _ _ o1) ?_
    cases k1:knows d.know (nth d.lives i).dot
    · simp -dsimp [h1]
      simp [deltaOkS,allB_false h1 (show dLiv d i = false by simp [dLiv,k1])]
    simp -dsimp [h1,ne_of_lt h1,k1]
    repeat (first | refine ⟨by omega,?_⟩ | refine ⟨⟨by omega,by omega⟩,?_⟩)
    refine ACallK_of (f17_ok _ _ o0) ?_
    cases k2:knows d.base (nth d.lives i).dot
    · simp -dsimp [h1]
      exact Back_of (i + 1) [1,3] [(64,64)] rfl rfl (by simp; rw [wrap64 (by omega) (by omega)]) ⟨by omega,allB_succ a1 (by simp [dLiv,k1,k2])⟩ (by omega)
    · simp -dsimp [h1]
      simp [deltaOkS,allB_false h1 (show dLiv d i = false by simp [dLiv,k1,k2])]
  · simp -dsimp [Nat.not_lt.2 h1]
    obtain rfl:i = d.lives.length:=by omega
    refine AWh_loop (fun i:Nat => i ≤ d.dead.length ∧ allB (dDead d) i = true) (fun i => mkE [(1,.box 64 0),(4,.c (.int .i64 i))] [(64,.box [.c (.im d.base.length (flat d.base)),.c (.im d.know.length (flat d.know)),.c (.im d.tallies.length (flat d.tallies)),.c (.im d.lives.length (flat d.lives)),.c (.im d.dead.length (flat d.dead)),.c (.im d.cs.length (flat d.cs))])]) (fun i => d.dead.length - i) 0 (Wk_to [1,4] [(64,64)] rfl rfl (by simp)) (by simp [allB]) ?_
    rintro i ⟨hi,a2⟩
    refine AW_of h71 TryzT_ok (by kernel_rfl) ?_
    rcases Nat.lt_or_ge i d.dead.length with h1 | h1
    · simp -dsimp [h1,ne_of_lt h1]
      refine ⟨by omega,?_⟩
      refine ACallK_of (f17_ok _ _ o0) ?_
      cases k1:knows d.base (nth d.dead i)
      · simp -dsimp [h1]
        simp [deltaOkS,allB_false h1 (show dDead d i = false by simp [dDead,k1])]
      · simp -dsimp [h1]
        exact Back_of (i + 1) [1,4] [(64,64)] rfl rfl (by simp; rw [wrap64 (by omega) (by omega)]) ⟨by omega,allB_succ a2 (by simp [dDead,k1])⟩ (by omega)
    · simp -dsimp [Nat.not_lt.2 h1]
      obtain rfl:i = d.dead.length:=by omega
      refine AWh_loop (fun i:Nat => i ≤ d.cs.length ∧ allB (dCel d) i = true) (fun i => mkE [(1,.box 64 0),(5,.c (.int .i64 i))] [(64,.box [.c (.im d.base.length (flat d.base)),.c (.im d.know.length (flat d.know)),.c (.im d.tallies.length (flat d.tallies)),.c (.im d.lives.length (flat d.lives)),.c (.im d.dead.length (flat d.dead)),.c (.im d.cs.length (flat d.cs))])]) (fun i => d.cs.length - i) 0 (Wk_to [1,5] [(64,64)] rfl rfl (by simp)) (by simp [allB]) ?_
      rintro i ⟨hi,a3⟩
      refine AW_of h71 TryzT_ok (by kernel_rfl) ?_
      rcases Nat.lt_or_ge i d.cs.length with h1 | h1
      · simp -dsimp [h1,ne_of_lt h1]
        refine ⟨by omega,?_⟩
        refine ACallK_of (f17_ok _ _ o1) ?_
        cases k1:knows d.know (nth d.cs i).dot
        · simp -dsimp [h1]
          simp [deltaOkS,allB_false h1 (show dCel d i = false by simp [dCel,k1])]
        · simp -dsimp [h1]
          exact Back_of (i + 1) [1,5] [(64,64)] rfl rfl (by simp; rw [wrap64 (by omega) (by omega)]) ⟨by omega,allB_succ a3 (by simp [dCel,k1])⟩ (by omega)
      · simp -dsimp [Nat.not_lt.2 h1]
        obtain rfl:i = d.cs.length:=by omega
        simp [deltaOkS,g1,g2,g3,g4,g5,a1,a2,a3]
@[simp] def h188:Hts:={ merge:=fun _ => false,mergeF:=fun _ => false,dr:=fun id => if id = 12 then [{},{},{},{ cr:=true },{},{},{},{},{},{},{},{},{},{},{},{},{ cr:=true },{},{},{}] else [] }
set_option maxHeartbeats 4000000 in
theorem f188_ok (d:GDelta) (hd:d.Ok):FnR Tryz.prog 188 [.agg [.im d.base.length (flat d.base),.im d.know.length (flat d.know),.im d.tallies.length (flat d.tallies),.im d.lives.length (flat d.lives),.im d.dead.length (flat d.dead),.im d.cs.length (flat d.cs)]] (.v (.bool (deltaOk d))):=by
  simp only [GDelta.Ok] at hd
  obtain ⟨o0,o1,o2,o3,o4,o5,o6,o7,o8⟩:=hd
  refine FnW.of_AW TryzT_ok 0 (fn:=Tryz.f188) (by kernel_rfl) rfl (by kernel_rfl) rfl rfl rfl ?_; refine AW_of h188 TryzT_ok (by kernel_rfl) ?_
  simp -dsimp
  refine ACallK_of (f305_ok _ _ o0 o1) ?_
  cases g1:knowIn d.base d.know
  · simp -dsimp [g1]
    simp [deltaOk,g1]
  simp -dsimp [g1]
  refine ACallK_of (f256_ok _ o2 o3) ?_
  cases g2:talsOk d.tallies
  · simp -dsimp [g2]
    simp [deltaOk,show talliesOk d.tallies = false from g2]
  simp -dsimp [g2]
  refine ACallK_of (f257_ok _ _ o4 o1 o5) ?_
  cases g3:livKsOk d.lives d.know
  · simp -dsimp [g3]
    simp [deltaOk,g3]
  simp -dsimp [g3]
  refine ACallK_of (f258_ok _ _ o7 o1 o8) ?_
  cases g4:celKsOk d.cs d.know
  · simp -dsimp [g4]
    simp [deltaOk,g4]
  rcases Nat.lt_or_ge 120 d.dead.length with g5 | g5
  · have g5':¬ d.dead.length ≤ 120:=by omega
    have g5i:(120:Int) < d.dead.length:=by omega
    simp -dsimp [g4,g5i]
    simp [deltaOk,g5,g5']
  have g5i:¬ (120:Int) < d.dead.length:=by omega
  have g5j:(d.dead.length:Int) ≤ 120:=by omega
  simp -dsimp [g4,g5i,g5j]
  have g2':talliesOk d.tallies = true:=g2
  refine AWh_loop (fun i:Nat => i ≤ d.lives.length ∧ allB (eLiv d) i = true) (fun i => mkE [(1,.box 64 0),(44,.c (.im d.lives.length (flat d.lives))),(45,.c (.int .i64 d.lives.length)),(46,.c (.int .i64 i))] [(64,.box [.c (.im d.base.length (flat d.base)),.c (.im d.know.length (flat d.know)),.c (.im d.tallies.length (flat d.tallies)),.c (.im d.lives.length (flat d.lives)),.c (.im d.dead.length (flat d.dead)),.c (.im d.cs.length (flat d.cs))])]) (fun i => d.lives.length - i) 0 (Wk_to [1,44,45,46] [(64,64)] rfl rfl (by simp)) (by simp [allB]) ?_
  rintro i ⟨hi,a1⟩
  refine AW_of h188 TryzT_ok (by kernel_rfl) ?_
  rcases Nat.lt_or_ge i d.lives.length with h1 | h1
  · simp -dsimp [h1,ne_of_lt h1]
    repeat (first | refine ⟨by omega,?_⟩ | refine ⟨⟨by omega,by omega⟩,?_⟩)
    refine ACallK_of (f125_ok _ _ o0) ?_
    cases k1:knows d.base (nth d.lives i).dot
    · simp -dsimp [h1]
      exact Back_of (i + 1) [1,44,45,46] [(64,64)] rfl rfl (by simp; rw [wrap64 (by omega) (by omega)]) ⟨by omega,allB_succ a1 (by simp [eLiv,k1])⟩ (by omega)
    · simp -dsimp [h1]
      simp [deltaOk,allB_false h1 (show eLiv d i = false by simp [eLiv,k1])]
  · simp -dsimp [Nat.not_lt.2 h1]
    obtain rfl:i = d.lives.length:=by omega
    refine AWh_loop (fun i:Nat => i ≤ d.dead.length ∧ allB (eDead d) i = true) (fun i => mkE [(1,.box 64 0),(57,.c (.im d.dead.length (flat d.dead))),(58,.c (.int .i64 d.dead.length)),(59,.c (.int .i64 i))] [(64,.box [.c (.im d.base.length (flat d.base)),.c (.im d.know.length (flat d.know)),.c (.im d.tallies.length (flat d.tallies)),.c (.im d.lives.length (flat d.lives)),.c (.im d.dead.length (flat d.dead)),.c (.im d.cs.length (flat d.cs))])]) (fun i => d.dead.length - i) 0 (Wk_to [1,57,58,59] [(64,64)] rfl rfl (by simp)) (by simp [allB]) ?_
    rintro i ⟨hi,a2⟩
    refine AW_of h188 TryzT_ok (by kernel_rfl) ?_
    rcases Nat.lt_or_ge i d.dead.length with h1 | h1
    · rcases Nat.eq_zero_or_pos i with hz | hz
      · have hz':¬ 0 < i:=by omega
        simp -dsimp [h1,ne_of_lt h1,hz']
        repeat (first | refine ⟨by omega,?_⟩ | refine ⟨⟨by omega,by omega⟩,?_⟩)
        refine ACallK_of (f125_ok _ _ o0) ?_
        cases k1:knows d.base (nth d.dead i)
        · simp -dsimp [h1]
          simp [deltaOk,allB_false h1 (show eDead d i = false by simp [eDead,k1])]
        · simp -dsimp [h1,hz',k1]
          exact Back_of (i + 1) [1,57,58,59] [(64,64)] rfl rfl (by simp; rw [wrap64 (by omega) (by omega)]) ⟨by omega,allB_succ a2 (by subst hz; simp [eDead,k1])⟩ (by omega)
      · have w:IntKind.i64.wrap ((i:Int) - 1) = i - 1:=wrap64 (by omega) (by omega)
        have t1:((i:Int) - 1).toNat = i - 1:=by omega
        have h3:i - 1 < d.dead.length:=by omega
        have hn:¬ i = 0:=by omega
        simp -dsimp [h1,ne_of_lt h1,hz,w,t1,h3]
        repeat (first | refine ⟨by omega,?_⟩ | refine ⟨⟨by omega,by omega⟩,?_⟩)
        refine ACallK_of (f125_ok _ _ o0) ?_
        cases k1:knows d.base (nth d.dead i)
        · simp -dsimp [h1]
          simp [deltaOk,allB_false h1 (show eDead d i = false by simp [eDead,k1])]
        simp -dsimp [h1,ne_of_lt h1,hz,w,t1,h3,k1]
        repeat (first | refine ⟨by omega,?_⟩ | refine ⟨⟨by omega,by omega⟩,?_⟩)
        refine ACallK_of (f266_ok _ _) ?_
        simp -dsimp [h1,ne_of_lt h1,hz,w,t1,h3,k1]
        refine ⟨fun h => ?_,fun h => ?_⟩
        · simp [deltaOk,allB_false h1 (show eDead d i = false by simp [eDead,hn,k1,show before (nth d.dead (i - 1)) (nth d.dead i) = false by rw [before_cmp]; simpa using h])]
        · exact Back_of (i + 1) [1,57,58,59] [(64,64)] rfl rfl (by simp; rw [wrap64 (by omega) (by omega)]) ⟨by omega,allB_succ a2 (by simp [eDead,k1,hn,show before (nth d.dead (i - 1)) (nth d.dead i) = true by rw [before_cmp]; simpa using h])⟩ (by omega)
    · simp -dsimp [Nat.not_lt.2 h1]
      obtain rfl:i = d.dead.length:=by omega
      refine AWh_loop (fun i:Nat => i ≤ d.cs.length ∧ allB (eCel d) i = true) (fun i => mkE [(86,.c (.im d.cs.length (flat d.cs))),(87,.c (.int .i64 d.cs.length)),(88,.c (.int .i64 i))] []) (fun i => d.cs.length - i) 0 (Wk_to [86,87,88] [] rfl rfl (by simp)) (by simp [allB]) ?_
      rintro i ⟨hi,a3⟩
      refine AW_of h188 TryzT_ok (by kernel_rfl) ?_
      rcases Nat.lt_or_ge i d.cs.length with h1 | h1
      · rcases bne_cases (nth d.cs i).ref.rep with ⟨r1,r2⟩ | ⟨r1,r2⟩ <;> rcases bne_cases (nth d.cs i).ref.seq with ⟨q1,q2⟩ | ⟨q1,q2⟩
        · simp -dsimp [h1,ne_of_lt h1,r1,r2,q1,q2]
          repeat (first | refine ⟨by omega,?_⟩ | refine ⟨⟨by omega,by omega⟩,?_⟩)
          refine ACallK_of (f263_ok _) ?_
          cases k1:dotOk (nth d.cs i).ref
          · simp -dsimp [h1]
            simp [deltaOk,allB_false h1 (show eCel d i = false by simp [eCel,r2,q2,k1])]
          · simp -dsimp [h1]
            exact Back_of (i + 1) [86,87,88] [] rfl rfl (by simp; rw [wrap64 (by omega) (by omega)]) ⟨by omega,allB_succ a3 (by simp [eCel,r2,q2,k1])⟩ (by omega)
        · simp -dsimp [h1,ne_of_lt h1,r1,r2,q1,q2]
          repeat (first | refine ⟨by omega,?_⟩ | refine ⟨⟨by omega,by omega⟩,?_⟩)
          refine ACallK_of (f263_ok _) ?_
          cases k1:dotOk (nth d.cs i).ref
          · simp -dsimp [h1]
            simp [deltaOk,allB_false h1 (show eCel d i = false by simp [eCel,r2,q2,k1])]
          · simp -dsimp [h1]
            exact Back_of (i + 1) [86,87,88] [] rfl rfl (by simp; rw [wrap64 (by omega) (by omega)]) ⟨by omega,allB_succ a3 (by simp [eCel,r2,q2,k1])⟩ (by omega)
        · simp -dsimp [h1,ne_of_lt h1,r1,r2,q1,q2]
          repeat (first | refine ⟨by omega,?_⟩ | refine ⟨⟨by omega,by omega⟩,?_⟩)
          refine ACallK_of (f263_ok _) ?_
          cases k1:dotOk (nth d.cs i).ref
          · simp -dsimp [h1]
            simp [deltaOk,allB_false h1 (show eCel d i = false by simp [eCel,r2,q2,k1])]
          · simp -dsimp [h1]
            exact Back_of (i + 1) [86,87,88] [] rfl rfl (by simp; rw [wrap64 (by omega) (by omega)]) ⟨by omega,allB_succ a3 (by simp [eCel,r2,q2,k1])⟩ (by omega)
        · simp -dsimp [h1,ne_of_lt h1,r1,r2,q1,q2]
          repeat (first | refine ⟨by omega,?_⟩ | refine ⟨⟨by omega,by omega⟩,?_⟩)
          exact Back_of (i + 1) [86,87,88] [] rfl rfl (by simp; rw [wrap64 (by omega) (by omega)]) ⟨by omega,allB_succ a3 (by simp [eCel,r2,q2])⟩ (by omega)
      · simp -dsimp [Nat.not_lt.2 h1]
        obtain rfl:i = d.cs.length:=by omega
        simp [deltaOk,g1,g2',g3,g4,g5,a1,a2,a3]
end Am
namespace Am
open Go Go.Proofs
open Cel (cells)
set_option maxRecDepth 100000
def zeroDelta:GDelta:=⟨[],[],[],[],[],[]⟩
def unitOk (u:GUnit):Bool:=if u.batch then deltaOk u.delta && decide (u.act = zeroAct) else actOk u.act && decide (u.delta = zeroDelta)
end Am
namespace Am
open Go Go.Proofs
open Cel (cells)
set_option maxRecDepth 100000
theorem str_nil {s:ByteArray}:(s.toList = [] ↔ s = ⟨#[]⟩):=by
  rw [ByteArray.toList_eq]
  constructor
  · intro h
    cases s
    simp only at h
    simp [Array.toList_eq_nil_iff.1 h]
  · rintro rfl; rfl
theorem str_emp {s:ByteArray}:s.toList.isEmpty = decide (s = ⟨#[]⟩):=by
  rw [Bool.eq_iff_iff,List.isEmpty_iff,str_nil,decide_eq_true_eq]
@[simp] def h319:Hts:={  }
theorem f319_ok (a:GAct):FnR Tryz.prog 319 [.agg [.int .i64 a.dot.rep,.int .i64 a.dot.seq,.int .i64 a.time,.im a.knew.length (flat a.knew),.int .i64 a.kind,.str a.obj,.str a.key,.int .i64 a.val,.int .i64 a.ref.rep,.int .i64 a.ref.seq]] (.v (.bool (decide (a = zeroAct)))):=by
  refine FnW.of_AW TryzT_ok 0 (fn:=Tryz.f319) (by kernel_rfl) rfl (by kernel_rfl) rfl rfl rfl ?_; refine AW_of h319 TryzT_ok (by kernel_rfl) ?_
  cases hf:(a.dot.rep == 0 && a.dot.seq == 0 && a.time == 0 && (a.knew.length:Int) == 0 && a.kind == 0 && a.obj.toList.isEmpty && a.key.toList.isEmpty && a.val == 0)
  · simp -dsimp [hf]
    intro e
    subst e
    simp [zeroAct,str_emp] at hf
  · simp -dsimp [hf]
    simp only [str_emp,Bool.and_eq_true,decide_eq_true_eq,beq_iff_eq] at hf
    obtain ⟨⟨⟨⟨⟨⟨⟨f1,f2⟩,f3⟩,f4⟩,f5⟩,f6⟩,f7⟩,f8⟩:=hf
    have hk:a.knew = []:=List.eq_nil_of_length_eq_zero (by omega)
    rw [Bool.eq_iff_iff]
    simp [zeroAct,GAct.ext_iff,GDot.ext_iff,f1,f2,f3,f5,f6,f7,f8,hk]
@[simp] def h320:Hts:={  }
theorem f320_ok (d:GDelta):FnR Tryz.prog 320 [.agg [.im d.base.length (flat d.base),.im d.know.length (flat d.know),.im d.tallies.length (flat d.tallies),.im d.lives.length (flat d.lives),.im d.dead.length (flat d.dead),.im d.cs.length (flat d.cs)]] (.v (.bool (decide (d = zeroDelta)))):=by
  refine FnW.of_AW TryzT_ok 0 (fn:=Tryz.f320) (by kernel_rfl) rfl (by kernel_rfl) rfl rfl rfl ?_; refine AW_of h320 TryzT_ok (by kernel_rfl) ?_
  simp -dsimp
  rw [Bool.eq_iff_iff]
  simp [zeroDelta,GDelta.ext_iff]
  grind
@[simp] def h211:Hts:={ merge:=fun _ => false,mergeF:=fun _ => false }
theorem f211_ok (u:GUnit) (h:u.Ok):FnR Tryz.prog 211 [.agg [.bool u.batch,.int .i64 u.act.dot.rep,.int .i64 u.act.dot.seq,.int .i64 u.act.time,.im u.act.knew.length (flat u.act.knew),.int .i64 u.act.kind,.str u.act.obj,.str u.act.key,.int .i64 u.act.val,.int .i64 u.act.ref.rep,.int .i64 u.act.ref.seq,.im u.delta.base.length (flat u.delta.base),.im u.delta.know.length (flat u.delta.know),.im u.delta.tallies.length (flat u.delta.tallies),.im u.delta.lives.length (flat u.delta.lives),.im u.delta.dead.length (flat u.delta.dead),.im u.delta.cs.length (flat u.delta.cs)]] (.v (.bool (unitOk u))):=by
  simp only [GUnit.Ok] at h
  refine FnW.of_AW TryzT_ok 0 (fn:=Tryz.f211) (by kernel_rfl) rfl (by kernel_rfl) rfl rfl rfl ?_; refine AW_of h211 TryzT_ok (by kernel_rfl) ?_
  cases hb:u.batch
  · simp -dsimp [hb]
    refine ACallK_of (f163_ok _ h.1) ?_
    cases g:actOk u.act
    · simp -dsimp
      simp [unitOk,hb,g]
    · simp -dsimp
      refine ACallK_of (f320_ok _) ?_
      simp -dsimp
      simp [unitOk,hb,g]
  · simp -dsimp [hb]
    refine ACallK_of (f71_ok _ h.2) ?_
    rw [deltaOkS_eq]
    cases g:deltaOk u.delta
    · simp -dsimp
      simp [unitOk,hb,g]
    · simp -dsimp
      refine ACallK_of (f319_ok _) ?_
      simp -dsimp
      simp [unitOk,hb,g]
@[simp] def h208:Hts:={ merge:=fun _ => false,mergeF:=fun _ => false }
theorem f208_ok (u:GUnit) (h:u.Ok):FnR Tryz.prog 208 [.agg [.bool u.batch,.int .i64 u.act.dot.rep,.int .i64 u.act.dot.seq,.int .i64 u.act.time,.im u.act.knew.length (flat u.act.knew),.int .i64 u.act.kind,.str u.act.obj,.str u.act.key,.int .i64 u.act.val,.int .i64 u.act.ref.rep,.int .i64 u.act.ref.seq,.im u.delta.base.length (flat u.delta.base),.im u.delta.know.length (flat u.delta.know),.im u.delta.tallies.length (flat u.delta.tallies),.im u.delta.lives.length (flat u.delta.lives),.im u.delta.dead.length (flat u.delta.dead),.im u.delta.cs.length (flat u.delta.cs)]] (.v (.bool (unitOk u))):=by
  simp only [GUnit.Ok] at h
  refine FnW.of_AW TryzT_ok 0 (fn:=Tryz.f208) (by kernel_rfl) rfl (by kernel_rfl) rfl rfl rfl ?_; refine AW_of h208 TryzT_ok (by kernel_rfl) ?_
  cases hb:u.batch
  · simp -dsimp [hb]
    refine ACallK_of (f158_ok _ h.1) ?_
    cases g:actOk u.act
    · simp -dsimp
      simp [unitOk,hb,g]
    · simp -dsimp
      refine ACallK_of (f242_ok u.delta zeroDelta h.2) ?_
      simp -dsimp
      simp [unitOk,hb,g]
  · simp -dsimp [hb]
    refine ACallK_of (f188_ok _ h.2) ?_
    cases g:deltaOk u.delta
    · simp -dsimp
      simp [unitOk,hb,g]
    · simp -dsimp
      refine ACallK_of (f241_ok u.act zeroAct h.1) ?_
      simp -dsimp
      simp [unitOk,hb,g]
def rowK (r:Nat) (n:Int):Nat → List GDot
  | 0 => []
  | k + 1 => rowK r n k ++ [⟨r,n + 1 + k⟩]
def rowsK (a b:List Int):Nat → List GDot
  | 0 => []
  | r + 1 => rowsK a b r ++ rowK r (nth a r) (nth b r - nth a r).toNat
def dotsIn (a b:List Int):List GDot:=if (knowOk a && knowOk b) = true then rowsK a b a.length else []
theorem rowK_len (r:Nat) (n:Int):∀ k,(rowK r n k).length = k
  | 0 => rfl
  | k + 1 => by simp [rowK,rowK_len r n k]
theorem rowsK_len {a b:List Int} (ha:knowOk a = true) (hb:knowOk b = true):∀ r:Nat,r ≤ 3 → (rowsK a b r).length ≤ 1000 * r
  | 0,_ => by simp [rowsK]
  | r + 1,h => by
    have ih:=rowsK_len ha hb r (by omega)
    simp [knowOk] at ha hb
    have h1:=ha.2 r (by omega)
    have h2:=hb.2 r (by omega)
    simp only [rowsK,List.length_append,rowK_len]
    omega
@[simp] def h222:Hts:={ merge:=fun _ => false,mergeF:=fun _ => false }
set_option maxHeartbeats 1000000 in
theorem f222_ok (a b:List Int) (ha:a.length ≤ 1073741824) (hb:b.length ≤ 1073741824):FnR Tryz.prog 222 [.v (.im a.length (flat a)),.v (.im b.length (flat b))] (.v (.ow 29 2 (dotsIn a b).length (flat (dotsIn a b)))):=by
  refine FnW.of_AW TryzT_ok 0 (fn:=Tryz.f222) (by kernel_rfl) rfl (by kernel_rfl) rfl rfl rfl ?_; refine AW_of h222 TryzT_ok (by kernel_rfl) ?_
  simp -dsimp
  refine ACallK_of (f128_ok _ ha) ?_
  cases g1:knowOk a
  · simp -dsimp
    simp [dotsIn,g1]
  simp -dsimp
  refine ACallK_of (f128_ok _ hb) ?_
  cases g2:knowOk b
  · simp -dsimp
    simp [dotsIn,g2]
  simp -dsimp
  have g1':=g1
  have g2':=g2
  simp [knowOk] at g1' g2'
  obtain ⟨a0,a1⟩:=g1'
  obtain ⟨b0,b1⟩:=g2'
  refine AWh_loop (fun i:Nat => i ≤ a.length) (fun i => mkE [(0,.c (.im a.length (flat a))),(1,.c (.im b.length (flat b))),(5,.arr 320),(6,.c (.int .i64 i))] [(320,.arr 0 29 2 (rowsK a b i).length (flat (rowsK a b i)))]) (fun i => a.length - i) 0 (Wk_to [0,1,5,6] [(320,512)] rfl rfl (by simp [rowsK])) (by simp) ?_
  rintro i hi
  have hl:=rowsK_len g1 g2 i (by omega)
  refine AW_of h222 TryzT_ok (by kernel_rfl) ?_
  rcases Nat.lt_or_ge i a.length with h1 | h1
  · have h2:i < b.length:=by omega
    have c1:=a1 i h1
    have c2:=b1 i h2
    have w1:IntKind.i64.wrap (nth a i + 1) = nth a i + 1:=wrap64 (by omega) (by omega)
    simp -dsimp [h1,h2,ne_of_lt h1,ne_of_lt h2,w1]
    repeat (first|refine ⟨by omega,?_⟩|refine ⟨by simp [capMax];omega,?_⟩|refine ⟨⟨by omega,by omega⟩,?_⟩)
    refine AWh_loop (fun k:Nat => k ≤ (nth b i - nth a i).toNat) (fun k => mkE [(0,.c (.im a.length (flat a))),(1,.c (.im b.length (flat b))),(5,.arr 320),(6,.c (.int .i64 i)),(7,.c (.int .i64 (nth a i + 1 + k)))] [(320,.arr 0 29 2 (rowsK a b i ++ rowK i (nth a i) k).length (flat (rowsK a b i ++ rowK i (nth a i) k)))]) (fun k => (nth b i - nth a i).toNat - k) 0 (Wk_to [0,1,5,6,7] [(320,320)] rfl rfl (by simp [rowK])) (by simp) ?_
    rintro k hk
    have hl2:(rowsK a b i ++ rowK i (nth a i) k).length ≤ 4000:=by rw [List.length_append,rowK_len]; omega
    have hl3:(rowsK a b i).length + (rowK i (nth a i) k).length ≤ 4000:=by rw [rowK_len]; omega
    refine AW_of h222 TryzT_ok (by kernel_rfl) ?_
    rcases Int.lt_or_le (nth b i) (nth a i + 1 + k) with k1 | k1
    · have k2:¬ nth a i + 1 + (k:Int) ≤ nth b i:=by omega
      have hk':k = (nth b i - nth a i).toNat:=by omega
      simp -dsimp [h1,h2,ne_of_lt h1,ne_of_lt h2,k1,k2]
      repeat (first|refine ⟨by omega,?_⟩|refine ⟨by simp [capMax];omega,?_⟩|refine ⟨⟨by omega,by omega⟩,?_⟩)
      exact Back_of (i + 1) [0,1,5,6] [(320,320)] rfl rfl (by simp [rowsK,← hk']; rw [wrap64 (by omega) (by omega)]) (by omega) (by omega)
    · have k2:¬ nth b i < nth a i + 1 + (k:Int):=by omega
      have w2:IntKind.i64.wrap (nth a i + 1 + k + 1) = nth a i + 1 + (k + 1):=by rw [wrap64 (by omega) (by omega)]; omega
      simp -dsimp [h1,h2,ne_of_lt h1,ne_of_lt h2,k1,k2,w2]
      repeat (first|refine ⟨by omega,?_⟩|refine ⟨by simp [capMax];omega,?_⟩|refine ⟨⟨by omega,by omega⟩,?_⟩)
      exact Back_of (k + 1) [0,1,5,6,7] [(320,2688)] rfl rfl (by simp [rowK,Nat.add_assoc]) (by omega) (by omega)
  · obtain rfl:i = a.length:=by omega
    simp -dsimp
    simp [dotsIn,g1,g2]
@[simp] def h221:Hts:={ merge:=fun _ => false,mergeF:=fun _ => false }
set_option maxHeartbeats 1000000 in
theorem f221_ok (a b:List Int) (ha:a.length ≤ 1073741824) (hb:b.length ≤ 1073741824):FnR Tryz.prog 221 [.v (.im a.length (flat a)),.v (.im b.length (flat b))] (.v (.ow 29 2 (dotsIn a b).length (flat (dotsIn a b)))):=by
  refine FnW.of_AW TryzT_ok 0 (fn:=Tryz.f221) (by kernel_rfl) rfl (by kernel_rfl) rfl rfl rfl ?_; refine AW_of h221 TryzT_ok (by kernel_rfl) ?_
  simp -dsimp
  refine ACallK_of (f223_ok _ ha) ?_
  cases g1:knowOk a
  · simp -dsimp
    simp [dotsIn,g1]
  simp -dsimp
  refine ACallK_of (f223_ok _ hb) ?_
  cases g2:knowOk b
  · simp -dsimp
    simp [dotsIn,g2]
  simp -dsimp
  have g1':=g1
  have g2':=g2
  simp [knowOk] at g1' g2'
  obtain ⟨a0,a1⟩:=g1'
  obtain ⟨b0,b1⟩:=g2'
  refine AWh_loop (fun i:Nat => i ≤ a.length) (fun i => mkE [(1,.c (.im b.length (flat b))),(5,.arr 320),(19,.c (.im a.length (flat a))),(20,.c (.int .i64 a.length)),(21,.c (.int .i64 i))] [(320,.arr 0 29 2 (rowsK a b i).length (flat (rowsK a b i)))]) (fun i => a.length - i) 0 (Wk_to [1,5,19,20,21] [(320,576)] rfl rfl (by simp [rowsK])) (by simp) ?_
  rintro i hi
  have hl:=rowsK_len g1 g2 i (by omega)
  refine AW_of h221 TryzT_ok (by kernel_rfl) ?_
  rcases Nat.lt_or_ge i a.length with h1 | h1
  · have h2:i < b.length:=by omega
    have c1:=a1 i h1
    have c2:=b1 i h2
    have w1:IntKind.i64.wrap (nth a i + 1) = nth a i + 1:=wrap64 (by omega) (by omega)
    simp -dsimp [h1,h2,ne_of_lt h1,ne_of_lt h2,w1]
    repeat (first|refine ⟨by omega,?_⟩|refine ⟨by simp [capMax];omega,?_⟩|refine ⟨⟨by omega,by omega⟩,?_⟩)
    refine AWh_loop (fun k:Nat => k ≤ (nth b i - nth a i).toNat) (fun k => mkE [(1,.c (.im b.length (flat b))),(5,.arr 320),(6,.c (.int .i64 i)),(8,.c (.int .i64 (nth a i + 1 + k))),(19,.c (.im a.length (flat a))),(20,.c (.int .i64 a.length)),(21,.c (.int .i64 i))] [(320,.arr 0 29 2 (rowsK a b i ++ rowK i (nth a i) k).length (flat (rowsK a b i ++ rowK i (nth a i) k)))]) (fun k => (nth b i - nth a i).toNat - k) 0 (Wk_to [1,5,6,8,19,20,21] [(320,320)] rfl rfl (by simp [rowK])) (by simp) ?_
    rintro k hk
    have hl2:(rowsK a b i ++ rowK i (nth a i) k).length ≤ 4000:=by rw [List.length_append,rowK_len]; omega
    have hl3:(rowsK a b i).length + (rowK i (nth a i) k).length ≤ 4000:=by rw [rowK_len]; omega
    refine AW_of h221 TryzT_ok (by kernel_rfl) ?_
    rcases Int.lt_or_le (nth b i) (nth a i + 1 + k) with k1 | k1
    · have k2:¬ nth a i + 1 + (k:Int) ≤ nth b i:=by omega
      have hk':k = (nth b i - nth a i).toNat:=by omega
      simp -dsimp [h1,h2,ne_of_lt h1,ne_of_lt h2,k1,k2]
      repeat (first|refine ⟨by omega,?_⟩|refine ⟨by simp [capMax];omega,?_⟩|refine ⟨⟨by omega,by omega⟩,?_⟩)
      exact Back_of (i + 1) [1,5,19,20,21] [(320,320)] rfl rfl (by simp [rowsK,← hk']; rw [wrap64 (by omega) (by omega)]) (by omega) (by omega)
    · have k2:¬ nth b i < nth a i + 1 + (k:Int):=by omega
      have w2:IntKind.i64.wrap (nth a i + 1 + k + 1) = nth a i + 1 + (k + 1):=by rw [wrap64 (by omega) (by omega)]; omega
      simp -dsimp [h1,h2,ne_of_lt h1,ne_of_lt h2,k1,k2,w2]
      repeat (first|refine ⟨by omega,?_⟩|refine ⟨by simp [capMax];omega,?_⟩|refine ⟨⟨by omega,by omega⟩,?_⟩)
      exact Back_of (k + 1) [1,5,6,8,19,20,21] [(320,2624)] rfl rfl (by simp [rowK,Nat.add_assoc]) (by omega) (by omega)
  · obtain rfl:i = a.length:=by omega
    simp -dsimp
    simp [dotsIn,g1,g2]
def coversD (u:GUnit):List GDot:=if unitOk u = true then (if u.batch = true then dotsIn u.delta.base u.delta.know else [u.act.dot]) else []
@[simp] def h83:Hts:={ merge:=fun _ => false,mergeF:=fun _ => false }
theorem f83_ok (u:GUnit) (h:u.Ok):FnR Tryz.prog 83 [.agg [.bool u.batch,.int .i64 u.act.dot.rep,.int .i64 u.act.dot.seq,.int .i64 u.act.time,.im u.act.knew.length (flat u.act.knew),.int .i64 u.act.kind,.str u.act.obj,.str u.act.key,.int .i64 u.act.val,.int .i64 u.act.ref.rep,.int .i64 u.act.ref.seq,.im u.delta.base.length (flat u.delta.base),.im u.delta.know.length (flat u.delta.know),.im u.delta.tallies.length (flat u.delta.tallies),.im u.delta.lives.length (flat u.delta.lives),.im u.delta.dead.length (flat u.delta.dead),.im u.delta.cs.length (flat u.delta.cs)]] (.v (.ow 29 2 (coversD u).length (flat (coversD u)))):=by
  have h':=h
  simp only [GUnit.Ok,GDelta.Ok] at h'
  refine FnW.of_AW TryzT_ok 0 (fn:=Tryz.f83) (by kernel_rfl) rfl (by kernel_rfl) rfl rfl rfl ?_; refine AW_of h83 TryzT_ok (by kernel_rfl) ?_
  simp -dsimp
  refine ACallK_of (f211_ok _ h) ?_
  cases g:unitOk u
  · simp -dsimp
    simp [coversD,g]
  cases hb:u.batch
  · simp -dsimp [hb]
    simp [coversD,g,hb]
    try rfl
  · simp -dsimp [hb]
    refine ACallK_of (f222_ok _ _ h'.2.1 h'.2.2.1) ?_
    simp -dsimp
    simp [coversD,g,hb]
@[simp] def h82:Hts:={ merge:=fun _ => false,mergeF:=fun _ => false }
theorem f82_ok (u:GUnit) (h:u.Ok):FnR Tryz.prog 82 [.agg [.bool u.batch,.int .i64 u.act.dot.rep,.int .i64 u.act.dot.seq,.int .i64 u.act.time,.im u.act.knew.length (flat u.act.knew),.int .i64 u.act.kind,.str u.act.obj,.str u.act.key,.int .i64 u.act.val,.int .i64 u.act.ref.rep,.int .i64 u.act.ref.seq,.im u.delta.base.length (flat u.delta.base),.im u.delta.know.length (flat u.delta.know),.im u.delta.tallies.length (flat u.delta.tallies),.im u.delta.lives.length (flat u.delta.lives),.im u.delta.dead.length (flat u.delta.dead),.im u.delta.cs.length (flat u.delta.cs)]] (.v (.ow 29 2 (coversD u).length (flat (coversD u)))):=by
  have h':=h
  simp only [GUnit.Ok,GDelta.Ok] at h'
  refine FnW.of_AW TryzT_ok 0 (fn:=Tryz.f82) (by kernel_rfl) rfl (by kernel_rfl) rfl rfl rfl ?_; refine AW_of h82 TryzT_ok (by kernel_rfl) ?_
  simp -dsimp
  refine ACallK_of (f208_ok _ h) ?_
  cases g:unitOk u
  · simp -dsimp
    simp [coversD,g]
  cases hb:u.batch
  · simp -dsimp [hb]
    simp [coversD,g,hb]
    try rfl
  · simp -dsimp [hb]
    refine ACallK_of (f221_ok _ _ h'.2.1 h'.2.2.1) ?_
    simp -dsimp
    simp [coversD,g,hb]
end Am
namespace Am
open Go Go.Proofs
open Cel (cells)
set_option maxRecDepth 100000
@[simp] def h326:Hts:={  }
theorem f326_ok (a:GAct) (h:a.Ok):FnR Tryz.prog 326 [.agg [.int .i64 a.dot.rep,.int .i64 a.dot.seq,.int .i64 a.time,.im a.knew.length (flat a.knew),.int .i64 a.kind,.str a.obj,.str a.key,.int .i64 a.val,.int .i64 a.ref.rep,.int .i64 a.ref.seq]] (.agg [.int .i64 a.dot.rep,.int .i64 a.dot.seq,.int .i64 a.time,.ow 3 1 a.knew.length (flat a.knew),.int .i64 a.kind,.str a.obj,.str a.key,.int .i64 a.val,.int .i64 a.ref.rep,.int .i64 a.ref.seq]):=by
  simp only [GAct.Ok] at h
  obtain ⟨o0,o1,o2⟩:=h
  refine FnW.of_AW TryzT_ok 0 (fn:=Tryz.f326) (by kernel_rfl) rfl (by kernel_rfl) rfl rfl rfl ?_; refine AW_of h326 TryzT_ok (by kernel_rfl) ?_
  simp -dsimp
  refine ACallK_of (f157_ok _ o0) ?_
  simp -dsimp
@[simp] def h327:Hts:={ dr:=fun id => if id = 1 then [{ mb:=[9,13,17,21] },{ mb:=[9,13,17,21] },{ cr:=true,mb:=[9,13,17,21] },{ mb:=[5,9,13,17,21] },{ mb:=[5,9,13,17,21] },{ cr:=true,mb:=[9,13,17,21] },{ cr:=true,mb:=[5,8,13,17,21] },{ mb:=[5,8,9,13,17,21] },{ mb:=[5,8,9,13,17,21] },{ wr:=[576],cr:=true,mb:=[13,17,21] },{ mn:=[576],cr:=true,mb:=[5,8,9,12,17,21] },{ mn:=[576],mb:=[5,8,9,12,13,17,21] },{ mn:=[576],mb:=[5,8,9,12,13,17,21] },{ wr:=[832],cr:=true,mb:=[17,21] },{ mn:=[576,832],cr:=true,mb:=[5,8,9,12,13,16,21] },{ mn:=[576,832],mb:=[5,8,9,12,13,16,17,21] },{ mn:=[576,832],mb:=[5,8,9,12,13,16,17,21] },{ wr:=[1088],cr:=true,mb:=[21] },{ mn:=[576,832,1088],cr:=true,mb:=[5,8,9,12,13,16,17,20] },{ mn:=[576,832,1088],mb:=[5,8,9,12,13,16,17,20,21] },{ mn:=[576,832,1088],mb:=[5,8,9,12,13,16,17,20,21] },{ wr:=[1344],cr:=true },{},{ wr:=[128] }] else [] }
set_option maxHeartbeats 1000000 in
theorem f327_ok (d:GDelta) (h:d.Ok):FnR Tryz.prog 327 [.agg [.im d.base.length (flat d.base),.im d.know.length (flat d.know),.im d.tallies.length (flat d.tallies),.im d.lives.length (flat d.lives),.im d.dead.length (flat d.dead),.im d.cs.length (flat d.cs)]] (.agg [.ow 3 1 d.base.length (flat d.base),.ow 3 1 d.know.length (flat d.know),.ow 179 3 d.tallies.length (flat d.tallies),.ow 159 6 d.lives.length (flat d.lives),.ow 29 2 d.dead.length (flat d.dead),.ow 72 8 d.cs.length (flat d.cs)]):=by
  simp only [GDelta.Ok] at h
  obtain ⟨o0,o1,o2,o3,o4,o5,o6,o7,o8⟩:=h
  refine FnW.of_AW TryzT_ok 0 (fn:=Tryz.f327) (by kernel_rfl) rfl (by kernel_rfl) rfl rfl rfl ?_; refine AW_of h327 TryzT_ok (by kernel_rfl) ?_
  simp -dsimp
  refine ACallK_of (f157_ok _ o0) ?_
  simp -dsimp
  refine ACallK_of (f157_ok _ o1) ?_
  simp -dsimp
  simp [capMax]
  omega
@[simp] def h224:Hts:={ dr:=fun id => if id = 1 then [{ mb:=[7,10] },{ mb:=[7,10] },{},{},{ cr:=true },{ mb:=[7] },{ mb:=[7] },{ cr:=true },{},{ wr:=[128] }] else [] }
theorem f224_ok (u:GUnit) (h:u.Ok):FnR Tryz.prog 224 [.agg [.bool u.batch,.int .i64 u.act.dot.rep,.int .i64 u.act.dot.seq,.int .i64 u.act.time,.im u.act.knew.length (flat u.act.knew),.int .i64 u.act.kind,.str u.act.obj,.str u.act.key,.int .i64 u.act.val,.int .i64 u.act.ref.rep,.int .i64 u.act.ref.seq,.im u.delta.base.length (flat u.delta.base),.im u.delta.know.length (flat u.delta.know),.im u.delta.tallies.length (flat u.delta.tallies),.im u.delta.lives.length (flat u.delta.lives),.im u.delta.dead.length (flat u.delta.dead),.im u.delta.cs.length (flat u.delta.cs)]] (.agg [.bool u.batch,.int .i64 u.act.dot.rep,.int .i64 u.act.dot.seq,.int .i64 u.act.time,.ow 3 1 u.act.knew.length (flat u.act.knew),.int .i64 u.act.kind,.str u.act.obj,.str u.act.key,.int .i64 u.act.val,.int .i64 u.act.ref.rep,.int .i64 u.act.ref.seq,.ow 3 1 u.delta.base.length (flat u.delta.base),.ow 3 1 u.delta.know.length (flat u.delta.know),.ow 179 3 u.delta.tallies.length (flat u.delta.tallies),.ow 159 6 u.delta.lives.length (flat u.delta.lives),.ow 29 2 u.delta.dead.length (flat u.delta.dead),.ow 72 8 u.delta.cs.length (flat u.delta.cs)]):=by
  simp only [GUnit.Ok] at h
  refine FnW.of_AW TryzT_ok 0 (fn:=Tryz.f224) (by kernel_rfl) rfl (by kernel_rfl) rfl rfl rfl ?_; refine AW_of h224 TryzT_ok (by kernel_rfl) ?_
  simp -dsimp
  refine ACallK_of (f326_ok _ h.1) ?_
  simp -dsimp
  refine ACallK_of (f327_ok _ h.2) ?_
  simp -dsimp
@[simp] def h225:Hts:={ dr:=fun id => if id = 1 then [{ mb:=[7,10] },{ mb:=[7,10] },{},{},{ cr:=true },{ mb:=[7] },{ mb:=[7] },{ cr:=true },{},{ wr:=[128] }] else [] }
theorem f225_ok (u:GUnit) (h:u.Ok):FnR Tryz.prog 225 [.agg [.bool u.batch,.int .i64 u.act.dot.rep,.int .i64 u.act.dot.seq,.int .i64 u.act.time,.im u.act.knew.length (flat u.act.knew),.int .i64 u.act.kind,.str u.act.obj,.str u.act.key,.int .i64 u.act.val,.int .i64 u.act.ref.rep,.int .i64 u.act.ref.seq,.im u.delta.base.length (flat u.delta.base),.im u.delta.know.length (flat u.delta.know),.im u.delta.tallies.length (flat u.delta.tallies),.im u.delta.lives.length (flat u.delta.lives),.im u.delta.dead.length (flat u.delta.dead),.im u.delta.cs.length (flat u.delta.cs)]] (.agg [.bool u.batch,.int .i64 u.act.dot.rep,.int .i64 u.act.dot.seq,.int .i64 u.act.time,.ow 3 1 u.act.knew.length (flat u.act.knew),.int .i64 u.act.kind,.str u.act.obj,.str u.act.key,.int .i64 u.act.val,.int .i64 u.act.ref.rep,.int .i64 u.act.ref.seq,.ow 3 1 u.delta.base.length (flat u.delta.base),.ow 3 1 u.delta.know.length (flat u.delta.know),.ow 179 3 u.delta.tallies.length (flat u.delta.tallies),.ow 159 6 u.delta.lives.length (flat u.delta.lives),.ow 29 2 u.delta.dead.length (flat u.delta.dead),.ow 72 8 u.delta.cs.length (flat u.delta.cs)]):=by
  simp only [GUnit.Ok] at h
  refine FnW.of_AW TryzT_ok 0 (fn:=Tryz.f225) (by kernel_rfl) rfl (by kernel_rfl) rfl rfl rfl ?_; refine AW_of h225 TryzT_ok (by kernel_rfl) ?_
  simp -dsimp
  refine ACallK_of (f235_ok _ h.1) ?_
  simp -dsimp
  refine ACallK_of (f303_ok _ h.2) ?_
  simp -dsimp
end Am
namespace Am
open Go Go.Proofs
open Cel (cells)
set_option maxRecDepth 100000
def knowAt (k:List Int) (u:GUnit) (j:Nat):Bool:=knows k (nth (coversD u) j)
def knowAll (k:List Int) (u:GUnit):Bool:=allB (knowAt k u) (coversD u).length
def lackK (l:GLog) (k:List Int):Nat → List GUnit
  | 0 => []
  | n + 1 => if knowAll k (nth l.units n) = true then lackK l k n else lackK l k n ++ [nth l.units n]
def lackOf (l:GLog) (k:List Int):List GUnit:=if knowOk k = true then lackK l k l.units.length else []
theorem dotsIn_len (a b:List Int):(dotsIn a b).length ≤ 3000:=by
  unfold dotsIn
  split
  · rename_i h
    simp only [Bool.and_eq_true] at h
    have h3:a.length = 3:=by have:=h.1; simp [knowOk] at this; exact this.1
    have:=rowsK_len h.1 h.2 a.length (by omega)
    omega
  · simp
theorem coversD_len (u:GUnit):(coversD u).length ≤ 3000:=by
  have:=dotsIn_len u.delta.base u.delta.know
  unfold coversD
  split
  · split
    · omega
    · simp
  · simp
theorem lackK_len (l:GLog) (k:List Int):∀ n,(lackK l k n).length ≤ n
  | 0 => by simp [lackK]
  | n + 1 => by
    have:=lackK_len l k n
    simp only [lackK]
    split
    · omega
    · simp; omega
@[simp] def h86:Hts:={ merge:=fun _ => false,mergeF:=fun _ => false }
set_option maxHeartbeats 2000000 in
theorem f86_ok (l:GLog) (k:List Int) (h:l.Ok) (hk:k.length ≤ 1073741824):FnR Tryz.prog 86 [.agg [.int .i64 l.rep,.int .i64 l.time,.im l.state.know.length (flat l.state.know),.im l.state.tallies.length (flat l.state.tallies),.im l.state.lives.length (flat l.state.lives),.im l.state.cs.length (flat l.state.cs),.im l.units.length (flat l.units),.im l.waits.length (flat l.waits)],.v (.im k.length (flat k))] (.v (.ow 99 17 (lackOf l k).length (flatO (lackOf l k)))):=by
  simp only [GLog.Ok] at h
  obtain ⟨h0,h1,h2,h3,h4⟩:=h
  refine FnW.of_AW TryzT_ok 0 (fn:=Tryz.f86) (by kernel_rfl) rfl (by kernel_rfl) rfl rfl rfl ?_; refine AW_of h86 TryzT_ok (by kernel_rfl) ?_
  simp -dsimp
  refine ACallK_of (f128_ok _ hk) ?_
  cases g:knowOk k
  · simp -dsimp
    simp [lackOf,g]
  simp -dsimp
  refine AWh_loop (fun i:Nat => i ≤ l.units.length) (fun i => mkE [(1,.c (.im k.length (flat k))),(2,.box 128 0),(5,.arr 320),(6,.c (.int .i64 i))] [(128,.box [.c (.int .i64 l.rep),.c (.int .i64 l.time),.c (.im l.state.know.length (flat l.state.know)),.c (.im l.state.tallies.length (flat l.state.tallies)),.c (.im l.state.lives.length (flat l.state.lives)),.c (.im l.state.cs.length (flat l.state.cs)),.c (.im l.units.length (flat l.units)),.c (.im l.waits.length (flat l.waits))]),(320,.arr 0 99 17 (lackK l k i).length (flatO (lackK l k i)))]) (fun i => l.units.length - i) 0 (Wk_to [1,2,5,6] [(128,128),(320,640)] rfl rfl (by simp [lackK])) (by simp) ?_
  rintro i hi
  have hll:=lackK_len l k i
  refine AW_of h86 TryzT_ok (by kernel_rfl) ?_
  rcases Nat.lt_or_ge i l.units.length with p1 | p1
  · have hu:=h2 _ (nth_mem p1)
    have hcl:(coversD (nth l.units i)).length ≤ 3000:=coversD_len _
    simp -dsimp [p1,ne_of_lt p1]
    repeat (first|refine ⟨by omega,?_⟩|refine ⟨by simp [capMax];omega,?_⟩|refine ⟨⟨by omega,by omega⟩,?_⟩)
    refine ACallK_of (f83_ok _ hu) ?_
    simp -dsimp
    refine AWh_loop (fun j:Nat => j ≤ (coversD (nth l.units i)).length) (fun j => mkE [(1,.c (.im k.length (flat k))),(2,.box 128 0),(5,.arr 320),(6,.c (.int .i64 i)),(7,.arr 448),(8,.c (.bool (allB (knowAt k (nth l.units i)) j))),(9,.c (.int .i64 j))] [(128,.box [.c (.int .i64 l.rep),.c (.int .i64 l.time),.c (.im l.state.know.length (flat l.state.know)),.c (.im l.state.tallies.length (flat l.state.tallies)),.c (.im l.state.lives.length (flat l.state.lives)),.c (.im l.state.cs.length (flat l.state.cs)),.c (.im l.units.length (flat l.units)),.c (.im l.waits.length (flat l.waits))]),(320,.arr 0 99 17 (lackK l k i).length (flatO (lackK l k i))),(448,.arr 0 29 2 (coversD (nth l.units i)).length (flat (coversD (nth l.units i))))]) (fun j => (coversD (nth l.units i)).length - j) 0 (Wk_to [1,2,5,6,7,8,9] [(128,128),(320,320),(448,1728)] rfl rfl (by simp [allB])) (by simp) ?_
    rintro j hj
    refine AW_of h86 TryzT_ok (by kernel_rfl) ?_
    rcases Nat.lt_or_ge j (coversD (nth l.units i)).length with q1 | q1
    · cases ga:allB (knowAt k (nth l.units i)) j
      · simp -dsimp [p1,ne_of_lt p1,q1,ne_of_lt q1]
        exact Back_of (j + 1) [1,2,5,6,7,8,9] [(128,128),(320,320),(448,448)] rfl rfl (by simp [allB,ga]; rw [wrap64 (by omega) (by omega)]) (by omega) (by omega)
      · simp -dsimp [p1,ne_of_lt p1,q1,ne_of_lt q1]
        repeat (first|refine ⟨by omega,?_⟩|refine ⟨by simp [capMax];omega,?_⟩|refine ⟨⟨by omega,by omega⟩,?_⟩)
        refine ACallK_of (f17_ok _ _ hk) ?_
        simp -dsimp
        exact Back_of (j + 1) [1,2,5,6,7,8,9] [(128,128),(320,320),(448,448)] rfl rfl (by simp [allB,ga,knowAt]; rw [wrap64 (by omega) (by omega)]) (by omega) (by omega)
    · obtain rfl:j = (coversD (nth l.units i)).length:=by omega
      cases ga:allB (knowAt k (nth l.units i)) (coversD (nth l.units i)).length
      · have hs:lackK l k (i + 1) = lackK l k i ++ [nth l.units i]:=by simp [lackK,knowAll,ga]
        simp -dsimp [p1,ne_of_lt p1,ga]
        repeat (first|refine ⟨by omega,?_⟩|refine ⟨by simp [capMax];omega,?_⟩|refine ⟨⟨by omega,by omega⟩,?_⟩)
        refine ACallK_of (f225_ok _ hu) ?_
        simp -dsimp
        repeat (first|refine ⟨by omega,?_⟩|refine ⟨by simp [capMax];omega,?_⟩|refine ⟨⟨by omega,by omega⟩,?_⟩)
        have ha:flatO (lackK l k i ++ [nth l.units i]) = flatO (lackK l k i) ++ CelO.cellsO (nth l.units i):=by rw [flatO_append,flatO_cons,flatO_nil,List.append_nil]
        exact Back_of (i + 1) [1,2,5,6] [(128,128),(320,3392)] rfl rfl (by simp [hs,ha]; rw [wrap64 (by omega) (by omega)]) (by omega) (by omega)
      · have hs:lackK l k (i + 1) = lackK l k i:=by simp [lackK,knowAll,ga]
        simp -dsimp [p1,ne_of_lt p1,ga]
        exact Back_of (i + 1) [1,2,5,6] [(128,128),(320,320)] rfl rfl (by simp [hs]; rw [wrap64 (by omega) (by omega)]) (by omega) (by omega)
  · obtain rfl:i = l.units.length:=by omega
    simp -dsimp
    simp [lackOf,g]
@[simp] def h85:Hts:={ merge:=fun _ => false,mergeF:=fun _ => false }
set_option maxHeartbeats 2000000 in
theorem f85_ok (l:GLog) (k:List Int) (h:l.Ok) (hk:k.length ≤ 1073741824):FnR Tryz.prog 85 [.agg [.int .i64 l.rep,.int .i64 l.time,.im l.state.know.length (flat l.state.know),.im l.state.tallies.length (flat l.state.tallies),.im l.state.lives.length (flat l.state.lives),.im l.state.cs.length (flat l.state.cs),.im l.units.length (flat l.units),.im l.waits.length (flat l.waits)],.v (.im k.length (flat k))] (.v (.ow 99 17 (lackOf l k).length (flatO (lackOf l k)))):=by
  simp only [GLog.Ok] at h
  obtain ⟨h0,h1,h2,h3,h4⟩:=h
  refine FnW.of_AW TryzT_ok 0 (fn:=Tryz.f85) (by kernel_rfl) rfl (by kernel_rfl) rfl rfl rfl ?_; refine AW_of h85 TryzT_ok (by kernel_rfl) ?_
  simp -dsimp
  refine ACallK_of (f223_ok _ hk) ?_
  cases g:knowOk k
  · simp -dsimp
    simp [lackOf,g]
  simp -dsimp
  refine AWh_loop (fun i:Nat => i ≤ l.units.length) (fun i => mkE [(1,.c (.im k.length (flat k))),(5,.arr 320),(16,.c (.im l.units.length (flat l.units))),(17,.c (.int .i64 l.units.length)),(18,.c (.int .i64 i))] [(320,.arr 0 99 17 (lackK l k i).length (flatO (lackK l k i)))]) (fun i => l.units.length - i) 0 (Wk_to [1,5,16,17,18] [(320,640)] rfl rfl (by simp [lackK])) (by simp) ?_
  rintro i hi
  have hll:=lackK_len l k i
  refine AW_of h85 TryzT_ok (by kernel_rfl) ?_
  rcases Nat.lt_or_ge i l.units.length with p1 | p1
  · have hu:=h2 _ (nth_mem p1)
    have hcl:(coversD (nth l.units i)).length ≤ 3000:=coversD_len _
    simp -dsimp [p1,ne_of_lt p1]
    repeat (first|refine ⟨by omega,?_⟩|refine ⟨by simp [capMax];omega,?_⟩|refine ⟨⟨by omega,by omega⟩,?_⟩)
    refine ACallK_of (f82_ok _ hu) ?_
    simp -dsimp
    refine AWh_loop (fun j:Nat => j ≤ (coversD (nth l.units i)).length ∧ allB (knowAt k (nth l.units i)) j = true) (fun j => mkE [(1,.c (.im k.length (flat k))),(5,.arr 320),(7,.box 448 0),(16,.c (.im l.units.length (flat l.units))),(17,.c (.int .i64 l.units.length)),(18,.c (.int .i64 i)),(23,.arr 1472),(24,.c (.int .i64 (coversD (nth l.units i)).length)),(25,.c (.int .i64 j))] [(448,.box [.c (.bool (nth l.units i).batch),.c (.int .i64 (nth l.units i).act.dot.rep),.c (.int .i64 (nth l.units i).act.dot.seq),.c (.int .i64 (nth l.units i).act.time),.c (.im (nth l.units i).act.knew.length (flat (nth l.units i).act.knew)),.c (.int .i64 (nth l.units i).act.kind),.c (.str (nth l.units i).act.obj),.c (.str (nth l.units i).act.key),.c (.int .i64 (nth l.units i).act.val),.c (.int .i64 (nth l.units i).act.ref.rep),.c (.int .i64 (nth l.units i).act.ref.seq),.c (.im (nth l.units i).delta.base.length (flat (nth l.units i).delta.base)),.c (.im (nth l.units i).delta.know.length (flat (nth l.units i).delta.know)),.c (.im (nth l.units i).delta.tallies.length (flat (nth l.units i).delta.tallies)),.c (.im (nth l.units i).delta.lives.length (flat (nth l.units i).delta.lives)),.c (.im (nth l.units i).delta.dead.length (flat (nth l.units i).delta.dead)),.c (.im (nth l.units i).delta.cs.length (flat (nth l.units i).delta.cs))]),(320,.arr 0 99 17 (lackK l k i).length (flatO (lackK l k i))),(1472,.arr 0 29 2 (coversD (nth l.units i)).length (flat (coversD (nth l.units i))))]) (fun j => (coversD (nth l.units i)).length - j) 0 (Wk_to [1,5,7,16,17,18,23,24,25] [(448,448),(320,320),(1472,1472)] rfl rfl (by simp)) (by simp [allB]) ?_
    rintro j ⟨hj,hall⟩
    refine AW_of h85 TryzT_ok (by kernel_rfl) ?_
    rcases Nat.lt_or_ge j (coversD (nth l.units i)).length with q1 | q1
    · simp -dsimp [p1,ne_of_lt p1,q1,ne_of_lt q1]
      repeat (first|refine ⟨by omega,?_⟩|refine ⟨by simp [capMax];omega,?_⟩|refine ⟨⟨by omega,by omega⟩,?_⟩)
      refine ACallK_of (f125_ok _ _ hk) ?_
      cases gk:knows k (nth (coversD (nth l.units i)) j)
      · have hs:lackK l k (i + 1) = lackK l k i ++ [nth l.units i]:=by
          have:knowAll k (nth l.units i) = false:=allB_false q1 gk
          simp [lackK,this]
        simp -dsimp
        refine ACallK_of (f224_ok _ hu) ?_
        simp -dsimp
        repeat (first|refine ⟨by omega,?_⟩|refine ⟨by simp [capMax];omega,?_⟩|refine ⟨⟨by omega,by omega⟩,?_⟩)
        have ha:flatO (lackK l k i ++ [nth l.units i]) = flatO (lackK l k i) ++ CelO.cellsO (nth l.units i):=by rw [flatO_append,flatO_cons,flatO_nil,List.append_nil]
        exact Back_of (i + 1) [1,5,16,17,18] [(320,2368)] rfl rfl (by simp [hs,ha]; rw [wrap64 (by omega) (by omega)]) (by omega) (by omega)
      · simp -dsimp
        exact Back_of (j + 1) [1,5,7,16,17,18,23,24,25] [(448,448),(320,320),(1472,1472)] rfl rfl (by simp; rw [wrap64 (by omega) (by omega)]) ⟨by omega,allB_succ hall gk⟩ (by omega)
    · obtain rfl:j = (coversD (nth l.units i)).length:=by omega
      have hs:lackK l k (i + 1) = lackK l k i:=by simp [lackK,knowAll,hall]
      simp -dsimp [p1,ne_of_lt p1]
      exact Back_of (i + 1) [1,5,16,17,18] [(320,320)] rfl rfl (by simp [hs]; rw [wrap64 (by omega) (by omega)]) (by omega) (by omega)
  · obtain rfl:i = l.units.length:=by omega
    simp -dsimp
    simp [lackOf,g]
end Am
