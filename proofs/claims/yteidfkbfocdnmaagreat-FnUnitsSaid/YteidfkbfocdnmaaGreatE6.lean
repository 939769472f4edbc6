/- Counters in their order. No condition. -/
import Derived.Test.YteidfkbfocdnmaaGreatT
import Derived.Test.YteidfkbfocdnmaaGreatD
import Derived.Test.YteidfkbfocdnmaaGreatE2
import Derived.Test.YteidfkbfocdnmaaGreatAm29
import Derived.Test.YteidfkbfocdnmaaGreatAm31
set_option linter.unusedSimpArgs false
set_option linter.unusedVariables false
set_option linter.unnecessarySimpa false
set_option linter.unusedSectionVars false
namespace Am
open Go Go.Proofs
open Cel (cells)
set_option maxRecDepth 100000
@[simp] def h203:Hts:={ merge:=fun t => decide (t < 34),mergeF:=fun f => f == 162 || f == 286,dr:=fun id => if id = 7 then [{},{},{},{},{},{},{},{},{},{},{},{},{},{},{},{},{},{},{},{},{},{},{},{},{},{},{},{},{},{},{},{},{},{},{}] else [] }
set_option maxHeartbeats 1000000 in
theorem f203_ok (l:List GTally) (ha:l.length ≤ 1073741824) (he:∀ x,x ∈ l → x.Ok):FnR Tryz.prog 203 [.v (.im l.length (flat l))] (.v (.bool (talliesOk l))):=by
  refine FnW.of_AW TryzT_ok 0 (fn:=Tryz.f203) (by kernel_rfl) rfl (by kernel_rfl) rfl rfl rfl ?_; refine AW_of h203 TryzT_ok (by kernel_rfl) ?_
  simp -dsimp
  refine AWh_loop (fun i:Nat => i ≤ l.length ∧ allB (talAt l) i = true) (fun i => mkE [(0,.c (.im l.length (flat l))),(3,.c (.int .i64 i))] []) (fun i => l.length - i) 0 (Wk_to [0,3] [] rfl rfl (by simp)) (by simp [allB]) ?_
  rintro i ⟨hi,hall⟩
  refine AW_of h203 TryzT_ok (by kernel_rfl) ?_
  rcases Nat.lt_or_ge i l.length with h1 | h1
  · have hb:(nth l i).obj.size ≤ 9223372036854775807:=by
      have:=he _ (nth_mem h1)
      simp only [GTally.Ok] at this
      omega
    have ho:=nth_mem h1
    rcases Nat.eq_zero_or_pos i with hz | hz
    · have hz':¬ 0 < i:=by omega
      simp -dsimp [h1,ne_of_lt h1,hz']
      refine ⟨by omega,?_⟩
      refine ACallK_of (f286_ok _ hb) ?_
      simp -dsimp
      refine ACallK_of (f162_ok _ _ _) ?_
      simp -dsimp
      refine ACallK_of (f162_ok _ _ _) ?_
      cases hc:(!nameOk (nth l i).obj || !spIn (nth l i).rep 0 2 || !spIn (nth l i).sum 0 999999)
      · simp only [Bool.or_eq_false_iff,Bool.not_eq_false'] at hc
        obtain ⟨⟨g1,g2⟩,g3⟩:=hc
        simp -dsimp [h1,ne_of_lt h1,hz',g1,g2,g3]
        exact Back_of (i + 1) [0,3] [] rfl rfl (by simp; rw [wrap64 (by omega) (by omega)]) ⟨by omega,allB_succ hall (by subst hz; simp [talAt,tallyOk,g1,g2,g3])⟩ (by omega)
      · simp -dsimp [hc]
        exact talliesOk_false h1 (by simp [talAt,tallyOk]; simp at hc; intros; simp_all)
    · have w:IntKind.i64.wrap ((i:Int) - 1) = i - 1:=wrap64 (by omega) (by omega)
      have t1:((i:Int) - 1).toNat = i - 1:=by omega
      have h3:i - 1 < l.length:=by omega
      have hn:¬ i = 0:=by omega
      simp -dsimp [h1,ne_of_lt h1,hz,w,t1,h3]
      refine ⟨by omega,?_⟩
      refine ACallK_of (f286_ok _ hb) ?_
      simp -dsimp
      refine ACallK_of (f162_ok _ _ _) ?_
      simp -dsimp
      refine ACallK_of (f162_ok _ _ _) ?_
      cases hc:(!nameOk (nth l i).obj || !spIn (nth l i).rep 0 2 || !spIn (nth l i).sum 0 999999)
      · simp only [Bool.or_eq_false_iff,Bool.not_eq_false'] at hc
        obtain ⟨⟨g1,g2⟩,g3⟩:=hc
        by_cases e:(nth l (i - 1)).obj = (nth l i).obj
        · have e2:strLt (nth l i).obj (nth l i).obj = false:=strLt_self _
          simp -dsimp [h1,ne_of_lt h1,hz,w,t1,h3,e,g1,g2,g3]
          refine ⟨⟨by omega,by omega⟩,fun h => ?_,fun h => ?_⟩
          · exact talliesOk_false h1 (by simp [talAt,tallyLt,e,e2,hn,h])
          · exact Back_of (i + 1) [0,3] [] rfl rfl (by simp; rw [wrap64 (by omega) (by omega)]) ⟨by omega,allB_succ hall (by simp [talAt,tallyOk,tallyLt,g1,g2,g3,e,e2,h])⟩ (by omega)
        · cases e2:Op.bytesLess (nth l (i - 1)).obj.toList (nth l i).obj.toList
          · simp -dsimp [h1,ne_of_lt h1,hz,w,t1,h3,e,e2,g1,g2,g3]
            refine ⟨⟨by omega,by omega⟩,?_⟩
            exact talliesOk_false h1 (by simp [talAt,tallyLt,e,strLt,e2,hn])
          · simp -dsimp [h1,ne_of_lt h1,hz,w,t1,h3,e,e2,g1,g2,g3]
            refine ⟨⟨by omega,by omega⟩,?_⟩
            exact Back_of (i + 1) [0,3] [] rfl rfl (by simp; rw [wrap64 (by omega) (by omega)]) ⟨by omega,allB_succ hall (by simp [talAt,tallyOk,tallyLt,g1,g2,g3,strLt,e2])⟩ (by omega)
      · simp -dsimp [hc]
        exact talliesOk_false h1 (by simp [talAt,tallyOk]; simp at hc; intros; simp_all)
  · simp -dsimp [Nat.not_lt.2 h1]
    obtain rfl:i = l.length:=by omega
    rw [talliesOk_end hall,Bool.eq_iff_iff]
    simp
    omega
end Am
namespace Am
open Go Go.Proofs
open Cel (cells)
set_option maxRecDepth 100000
theorem bne_cases (x:Int):((x != 0) = true ∧ (x == 0) = false) ∨ ((x != 0) = false ∧ (x == 0) = true):=by
  by_cases h:x = 0 <;> simp [h]
def zeroDot:GDot:=⟨0,0⟩
def liveOk (x:GLive):Bool:=nameOk x.obj && nameOk x.key && spIn x.val 0 999999 && (x.map || x.val == 0)
def livAt (l:List GLive) (i:Nat):Bool:=dotOk (nth l i).dot && liveOk (nth l i) && (decide (i = 0) || before (nth l (i - 1)).dot (nth l i).dot)
def livsOk (l:List GLive):Bool:=decide (l.length ≤ 120) && allB (livAt l) l.length
theorem livsOk_false {l:List GLive} {i:Nat} (h1:i < l.length) (h:livAt l i = false):livsOk l = false:=by
  simp only [livsOk,allB_false h1 h,Bool.and_false]
theorem livsOk_end {l:List GLive} (h:allB (livAt l) l.length = true):livsOk l = decide (l.length ≤ 120):=by
  simp only [livsOk,h,Bool.and_true]
def livKAt (l:List GLive) (k:List Int) (i:Nat):Bool:=knows k (nth l i).dot && liveOk (nth l i) && (decide (i = 0) || before (nth l (i - 1)).dot (nth l i).dot)
def livKsOk (l:List GLive) (k:List Int):Bool:=decide (l.length ≤ 120) && allB (livKAt l k) l.length
theorem livKsOk_false {l:List GLive} {k:List Int} {i:Nat} (h1:i < l.length) (h:livKAt l k i = false):livKsOk l k = false:=by
  simp only [livKsOk,allB_false h1 h,Bool.and_false]
theorem livKsOk_end {l:List GLive} {k:List Int} (h:allB (livKAt l k) l.length = true):livKsOk l k = decide (l.length ≤ 120):=by
  simp only [livKsOk,h,Bool.and_true]
def cellOk' (x:GCell):Bool:=nameOk x.obj && spIn x.time 1 10000 && spIn x.val 0 999999
def celAt (l:List GCell) (i:Nat):Bool:=dotOk (nth l i).dot && cellOk' (nth l i) && (((nth l i).ref.rep == 0 && (nth l i).ref.seq == 0) || dotOk (nth l i).ref) && (decide (i = 0) || before (nth l (i - 1)).dot (nth l i).dot)
def celsOk (l:List GCell):Bool:=decide (l.length ≤ 120) && allB (celAt l) l.length
theorem celsOk_false {l:List GCell} {i:Nat} (h1:i < l.length) (h:celAt l i = false):celsOk l = false:=by
  simp only [celsOk,allB_false h1 h,Bool.and_false]
theorem celsOk_end {l:List GCell} (h:allB (celAt l) l.length = true):celsOk l = decide (l.length ≤ 120):=by
  simp only [celsOk,h,Bool.and_true]
def celKAt (l:List GCell) (k:List Int) (i:Nat):Bool:=knows k (nth l i).dot && cellOk' (nth l i) && (decide (i = 0) || before (nth l (i - 1)).dot (nth l i).dot)
def celKsOk (l:List GCell) (k:List Int):Bool:=decide (l.length ≤ 120) && allB (celKAt l k) l.length
theorem celKsOk_false {l:List GCell} {k:List Int} {i:Nat} (h1:i < l.length) (h:celKAt l k i = false):celKsOk l k = false:=by
  simp only [celKsOk,allB_false h1 h,Bool.and_false]
theorem celKsOk_end {l:List GCell} {k:List Int} (h:allB (celKAt l k) l.length = true):celKsOk l k = decide (l.length ≤ 120):=by
  simp only [celKsOk,h,Bool.and_true]
def talsOk (l:List GTally):Bool:=talliesOk l
theorem before_cmp (a b:GDot):before a b = decide (cmpDot a b < 0):=by
  have:=cmpDot_before a b
  cases h:before a b <;> simp [h] at this <;> simp <;> omega
theorem tallyLt_cmp (a b:GTally):tallyLt a b = decide (cmpTally a b < 0):=by
  have:=cmpTally_lt a b
  cases h:tallyLt a b <;> simp [h] at this <;> simp <;> omega
theorem talsOk_false {l:List GTally} {i:Nat} (h1:i < l.length) (h:talAt l i = false):talsOk l = false:=talliesOk_false h1 h
theorem talsOk_end {l:List GTally} (h:allB (talAt l) l.length = true):talsOk l = decide (l.length ≤ 120):=talliesOk_end h
@[simp] def h256:Hts:={ merge:=fun _ => false,mergeF:=fun _ => false,dr:=fun id => if id = 4 then [{},{},{ cr:=true },{},{},{},{},{ cr:=true },{},{},{},{},{},{ cr:=true },{},{},{},{},{},{},{},{},{},{},{},{},{ cr:=true },{},{},{}] else [] }
set_option maxHeartbeats 1000000 in
theorem f256_ok (l:List GTally) (ha:l.length ≤ 1073741824) (he:∀ x,x ∈ l → x.Ok):FnR Tryz.prog 256 [.v (.im l.length (flat l))] (.v (.bool (talsOk l))):=by
  refine FnW.of_AW TryzT_ok 0 (fn:=Tryz.f256) (by kernel_rfl) rfl (by kernel_rfl) rfl rfl rfl ?_; refine AW_of h256 TryzT_ok (by kernel_rfl) ?_
  simp -dsimp
  refine AWh_loop (fun i:Nat => i ≤ l.length ∧ allB (talAt l) i = true) (fun i => mkE [(0,.c (.im l.length (flat l))),(5,.c (.im l.length (flat l))),(6,.c (.int .i64 l.length)),(7,.c (.int .i64 i))] []) (fun i => l.length - i) 0 (Wk_to [0,5,6,7] [] rfl rfl (by simp)) (by simp [allB]) ?_
  rintro i ⟨hi,hall⟩
  refine AW_of h256 TryzT_ok (by kernel_rfl) ?_
  rcases Nat.lt_or_ge i l.length with h1 | h1
  · have hm:=he _ (nth_mem h1)
    simp only [GTally.Ok] at hm
    rcases Nat.eq_zero_or_pos i with hz | hz
    · have hz':¬ 0 < i:=by omega
      simp -dsimp [h1,ne_of_lt h1,hz']
      refine ⟨by omega,?_⟩
      refine ACallK_of (f283_ok _ (by omega)) ?_
      cases g1:nameOk (nth l i).obj
      · simp -dsimp [h1,ne_of_lt h1,hz']
        exact talsOk_false h1 (by simp [talAt,tallyOk,g1])
      simp -dsimp [h1,ne_of_lt h1,hz',g1]
      refine ACallK_of (f156_ok _ _ _) ?_
      cases g2:spIn (nth l i).rep 0 2
      · simp -dsimp [h1,ne_of_lt h1,hz']
        exact talsOk_false h1 (by simp [talAt,tallyOk,g2])
      simp -dsimp [h1,ne_of_lt h1,hz',g2]
      refine ACallK_of (f156_ok _ _ _) ?_
      cases g3:spIn (nth l i).sum 0 999999
      · simp -dsimp [h1,ne_of_lt h1,hz']
        exact talsOk_false h1 (by simp [talAt,tallyOk,g3])
      simp -dsimp [h1,ne_of_lt h1,hz',g1,g2,g3]
      exact Back_of (i + 1) [0,5,6,7] [] rfl rfl (by simp; rw [wrap64 (by omega) (by omega)]) ⟨by omega,allB_succ hall (by subst hz; simp [talAt,tallyOk,g1,g2,g3])⟩ (by omega)
    · have w:IntKind.i64.wrap ((i:Int) - 1) = i - 1:=wrap64 (by omega) (by omega)
      have t1:((i:Int) - 1).toNat = i - 1:=by omega
      have h3:i - 1 < l.length:=by omega
      have hn:¬ i = 0:=by omega
      simp -dsimp [h1,ne_of_lt h1,hz,w,t1,h3]
      refine ⟨by omega,?_⟩
      refine ACallK_of (f283_ok _ (by omega)) ?_
      cases g1:nameOk (nth l i).obj
      · simp -dsimp [h1,ne_of_lt h1,hz,w,t1,h3]
        exact talsOk_false h1 (by simp [talAt,tallyOk,g1])
      simp -dsimp [h1,ne_of_lt h1,hz,w,t1,h3,g1]
      refine ACallK_of (f156_ok _ _ _) ?_
      cases g2:spIn (nth l i).rep 0 2
      · simp -dsimp [h1,ne_of_lt h1,hz,w,t1,h3]
        exact talsOk_false h1 (by simp [talAt,tallyOk,g2])
      simp -dsimp [h1,ne_of_lt h1,hz,w,t1,h3,g2]
      refine ACallK_of (f156_ok _ _ _) ?_
      cases g3:spIn (nth l i).sum 0 999999
      · simp -dsimp [h1,ne_of_lt h1,hz,w,t1,h3]
        exact talsOk_false h1 (by simp [talAt,tallyOk,g3])
      simp -dsimp [h1,ne_of_lt h1,hz,w,t1,h3,g1,g2,g3]
      repeat (first | refine ⟨by omega,?_⟩ | refine ⟨⟨by omega,by omega⟩,?_⟩)
      refine ACallK_of (f261_ok _ _) ?_
      simp -dsimp [h1,ne_of_lt h1,hz,w,t1,h3,g1,g2,g3]
      refine ⟨fun h => talsOk_false h1 (by simp [talAt,tallyOk,hn,show tallyLt _ _ = false by rw [tallyLt_cmp]; simpa using h]),fun h => Back_of (i + 1) [0,5,6,7] [] rfl rfl (by simp; rw [wrap64 (by omega) (by omega)]) ⟨by omega,allB_succ hall (by simp [talAt,tallyOk,g1,g2,g3,show tallyLt _ _ = true by rw [tallyLt_cmp]; simpa using h])⟩ (by omega)⟩
  · simp -dsimp [Nat.not_lt.2 h1]
    obtain rfl:i = l.length:=by omega
    rw [talsOk_end hall,Bool.eq_iff_iff]
    simp
    omega
@[simp] def h204:Hts:={ merge:=fun _ => false,mergeF:=fun _ => false,dr:=fun id => if id = 5 then [{},{},{ cr:=true },{},{},{},{},{ cr:=true },{},{},{},{},{},{ cr:=true },{},{},{},{},{},{ cr:=true },{},{},{},{},{},{},{},{},{},{},{},{},{},{},{},{},{},{},{},{},{},{},{},{},{ cr:=true },{},{},{}] else [] }
set_option maxHeartbeats 1000000 in
theorem f204_ok (l:List GLive) (ha:l.length ≤ 1073741824) (he:∀ x,x ∈ l → x.Ok):FnR Tryz.prog 204 [.v (.im l.length (flat l))] (.v (.bool (livsOk l))):=by
  refine FnW.of_AW TryzT_ok 0 (fn:=Tryz.f204) (by kernel_rfl) rfl (by kernel_rfl) rfl rfl rfl ?_; refine AW_of h204 TryzT_ok (by kernel_rfl) ?_
  simp -dsimp
  refine AWh_loop (fun i:Nat => i ≤ l.length ∧ allB (livAt l) i = true) (fun i => mkE [(0,.c (.im l.length (flat l))),(3,.c (.int .i64 i))] []) (fun i => l.length - i) 0 (Wk_to [0,3] [] rfl rfl (by simp)) (by simp [allB]) ?_
  rintro i ⟨hi,hall⟩
  refine AW_of h204 TryzT_ok (by kernel_rfl) ?_
  rcases Nat.lt_or_ge i l.length with h1 | h1
  · have hm:=he _ (nth_mem h1)
    simp only [GLive.Ok] at hm
    rcases Nat.eq_zero_or_pos i with hz | hz
    · have hz':¬ 0 < i:=by omega
      simp -dsimp [h1,ne_of_lt h1,hz']
      refine ⟨by omega,?_⟩
      refine ACallK_of (f129_ok _) ?_
      cases g1:dotOk (nth l i).dot
      · simp -dsimp [h1,ne_of_lt h1,hz']
        exact livsOk_false h1 (by simp [livAt,liveOk,g1])
      simp -dsimp [h1,ne_of_lt h1,hz',g1]
      refine ACallK_of (f286_ok _ (by omega)) ?_
      cases g2:nameOk (nth l i).obj
      · simp -dsimp [h1,ne_of_lt h1,hz']
        exact livsOk_false h1 (by simp [livAt,liveOk,g2])
      simp -dsimp [h1,ne_of_lt h1,hz',g2]
      refine ACallK_of (f286_ok _ (by omega)) ?_
      cases g3:nameOk (nth l i).key
      · simp -dsimp [h1,ne_of_lt h1,hz']
        exact livsOk_false h1 (by simp [livAt,liveOk,g3])
      simp -dsimp [h1,ne_of_lt h1,hz',g3]
      refine ACallK_of (f162_ok _ _ _) ?_
      cases g4:spIn (nth l i).val 0 999999
      · simp -dsimp [h1,ne_of_lt h1,hz']
        exact livsOk_false h1 (by simp [livAt,liveOk,g4])
      cases gm:(nth l i).map <;> rcases bne_cases (nth l i).val with ⟨gv,gw⟩ | ⟨gv,gw⟩
      all_goals (
        simp -dsimp [h1,ne_of_lt h1,hz',g1,g2,g3,g4,gm,gv,gw]
        first
        | exact livsOk_false h1 (by simp [livAt,liveOk,gm,gv,gw])
        | exact Back_of (i + 1) [0,3] [] rfl rfl (by simp; rw [wrap64 (by omega) (by omega)]) ⟨by omega,allB_succ hall (by subst hz; simp [livAt,liveOk,g1,g2,g3,g4,gm,gv,gw])⟩ (by omega))
    · have w:IntKind.i64.wrap ((i:Int) - 1) = i - 1:=wrap64 (by omega) (by omega)
      have t1:((i:Int) - 1).toNat = i - 1:=by omega
      have h3:i - 1 < l.length:=by omega
      have hn:¬ i = 0:=by omega
      simp -dsimp [h1,ne_of_lt h1,hz,w,t1,h3]
      refine ⟨by omega,?_⟩
      refine ACallK_of (f129_ok _) ?_
      cases g1:dotOk (nth l i).dot
      · simp -dsimp [h1,ne_of_lt h1,hz,w,t1,h3]
        exact livsOk_false h1 (by simp [livAt,liveOk,g1])
      simp -dsimp [h1,ne_of_lt h1,hz,w,t1,h3,g1]
      refine ACallK_of (f286_ok _ (by omega)) ?_
      cases g2:nameOk (nth l i).obj
      · simp -dsimp [h1,ne_of_lt h1,hz,w,t1,h3]
        exact livsOk_false h1 (by simp [livAt,liveOk,g2])
      simp -dsimp [h1,ne_of_lt h1,hz,w,t1,h3,g2]
      refine ACallK_of (f286_ok _ (by omega)) ?_
      cases g3:nameOk (nth l i).key
      · simp -dsimp [h1,ne_of_lt h1,hz,w,t1,h3]
        exact livsOk_false h1 (by simp [livAt,liveOk,g3])
      simp -dsimp [h1,ne_of_lt h1,hz,w,t1,h3,g3]
      refine ACallK_of (f162_ok _ _ _) ?_
      cases g4:spIn (nth l i).val 0 999999
      · simp -dsimp [h1,ne_of_lt h1,hz,w,t1,h3]
        exact livsOk_false h1 (by simp [livAt,liveOk,g4])
      cases gm:(nth l i).map <;> rcases bne_cases (nth l i).val with ⟨gv,gw⟩ | ⟨gv,gw⟩
      all_goals (
        simp -dsimp [h1,ne_of_lt h1,hz,w,t1,h3,g1,g2,g3,g4,gm,gv,gw]
        first
        | exact livsOk_false h1 (by simp [livAt,liveOk,gm,gv,gw])
        | (repeat (first | refine ⟨by omega,?_⟩ | refine ⟨⟨by omega,by omega⟩,?_⟩)
           refine ACallK_of (f277_ok _ _) ?_
           simp -dsimp [h1,ne_of_lt h1,hz,w,t1,h3,g1,g2,g3,g4,gm,gv,gw]
           refine ⟨fun h => livsOk_false h1 (by simp [livAt,liveOk,hn,h]),fun h => Back_of (i + 1) [0,3] [] rfl rfl (by simp; rw [wrap64 (by omega) (by omega)]) ⟨by omega,allB_succ hall (by simp [livAt,liveOk,g1,g2,g3,g4,gm,gv,gw,h])⟩ (by omega)⟩))
  · simp -dsimp [Nat.not_lt.2 h1]
    obtain rfl:i = l.length:=by omega
    rw [livsOk_end hall,Bool.eq_iff_iff]
    simp
    omega
@[simp] def h257:Hts:={ merge:=fun _ => false,mergeF:=fun _ => false,dr:=fun id => if id = 6 then [{},{},{},{},{},{},{},{},{},{},{},{ cr:=true },{},{}] else [] }
set_option maxHeartbeats 1000000 in
theorem f257_ok (l:List GLive) (k:List Int) (ha:l.length ≤ 1073741824) (hk:k.length ≤ 1073741824) (he:∀ x,x ∈ l → x.Ok):FnR Tryz.prog 257 [.v (.im l.length (flat l)),.v (.im k.length (flat k))] (.v (.bool (livKsOk l k))):=by
  refine FnW.of_AW TryzT_ok 0 (fn:=Tryz.f257) (by kernel_rfl) rfl (by kernel_rfl) rfl rfl rfl ?_; refine AW_of h257 TryzT_ok (by kernel_rfl) ?_
  simp -dsimp
  refine AWh_loop (fun i:Nat => i ≤ l.length ∧ allB (livKAt l k) i = true) (fun i => mkE [(0,.c (.im l.length (flat l))),(1,.c (.im k.length (flat k))),(7,.c (.im l.length (flat l))),(8,.c (.int .i64 l.length)),(9,.c (.int .i64 i))] []) (fun i => l.length - i) 0 (Wk_to [0,1,7,8,9] [] rfl rfl (by simp)) (by simp [allB]) ?_
  rintro i ⟨hi,hall⟩
  refine AW_of h257 TryzT_ok (by kernel_rfl) ?_
  rcases Nat.lt_or_ge i l.length with h1 | h1
  · have hm:=he _ (nth_mem h1)
    simp only [GLive.Ok] at hm
    rcases Nat.eq_zero_or_pos i with hz | hz
    · have hz':¬ 0 < i:=by omega
      simp -dsimp [h1,ne_of_lt h1,hz']
      refine ⟨by omega,?_⟩
      refine ACallK_of (f125_ok _ _ hk) ?_
      cases g1:knows k (nth l i).dot
      · simp -dsimp [h1,ne_of_lt h1,hz']
        exact livKsOk_false h1 (by simp [livKAt,liveOk,g1])
      simp -dsimp [h1,ne_of_lt h1,hz',g1]
      refine ACallK_of (f283_ok _ (by omega)) ?_
      cases g2:nameOk (nth l i).obj
      · simp -dsimp [h1,ne_of_lt h1,hz']
        exact livKsOk_false h1 (by simp [livKAt,liveOk,g2])
      simp -dsimp [h1,ne_of_lt h1,hz',g2]
      refine ACallK_of (f283_ok _ (by omega)) ?_
      cases g3:nameOk (nth l i).key
      · simp -dsimp [h1,ne_of_lt h1,hz']
        exact livKsOk_false h1 (by simp [livKAt,liveOk,g3])
      simp -dsimp [h1,ne_of_lt h1,hz',g3]
      refine ACallK_of (f156_ok _ _ _) ?_
      cases g4:spIn (nth l i).val 0 999999
      · simp -dsimp [h1,ne_of_lt h1,hz']
        exact livKsOk_false h1 (by simp [livKAt,liveOk,g4])
      cases gm:(nth l i).map <;> rcases bne_cases (nth l i).val with ⟨gv,gw⟩ | ⟨gv,gw⟩
      all_goals (
        simp -dsimp [h1,ne_of_lt h1,hz',g1,g2,g3,g4,gm,gv,gw]
        first
        | exact livKsOk_false h1 (by simp [livKAt,liveOk,gm,gv,gw])
        | exact Back_of (i + 1) [0,1,7,8,9] [] rfl rfl (by simp; rw [wrap64 (by omega) (by omega)]) ⟨by omega,allB_succ hall (by subst hz; simp [livKAt,liveOk,g1,g2,g3,g4,gm,gv,gw])⟩ (by omega))
    · have w:IntKind.i64.wrap ((i:Int) - 1) = i - 1:=wrap64 (by omega) (by omega)
      have t1:((i:Int) - 1).toNat = i - 1:=by omega
      have h3:i - 1 < l.length:=by omega
      have hn:¬ i = 0:=by omega
      simp -dsimp [h1,ne_of_lt h1,hz,w,t1,h3]
      refine ⟨by omega,?_⟩
      refine ACallK_of (f125_ok _ _ hk) ?_
      cases g1:knows k (nth l i).dot
      · simp -dsimp [h1,ne_of_lt h1,hz,w,t1,h3]
        exact livKsOk_false h1 (by simp [livKAt,liveOk,g1])
      simp -dsimp [h1,ne_of_lt h1,hz,w,t1,h3,g1]
      refine ACallK_of (f283_ok _ (by omega)) ?_
      cases g2:nameOk (nth l i).obj
      · simp -dsimp [h1,ne_of_lt h1,hz,w,t1,h3]
        exact livKsOk_false h1 (by simp [livKAt,liveOk,g2])
      simp -dsimp [h1,ne_of_lt h1,hz,w,t1,h3,g2]
      refine ACallK_of (f283_ok _ (by omega)) ?_
      cases g3:nameOk (nth l i).key
      · simp -dsimp [h1,ne_of_lt h1,hz,w,t1,h3]
        exact livKsOk_false h1 (by simp [livKAt,liveOk,g3])
      simp -dsimp [h1,ne_of_lt h1,hz,w,t1,h3,g3]
      refine ACallK_of (f156_ok _ _ _) ?_
      cases g4:spIn (nth l i).val 0 999999
      · simp -dsimp [h1,ne_of_lt h1,hz,w,t1,h3]
        exact livKsOk_false h1 (by simp [livKAt,liveOk,g4])
      cases gm:(nth l i).map <;> rcases bne_cases (nth l i).val with ⟨gv,gw⟩ | ⟨gv,gw⟩
      all_goals (
        simp -dsimp [h1,ne_of_lt h1,hz,w,t1,h3,g1,g2,g3,g4,gm,gv,gw]
        first
        | exact livKsOk_false h1 (by simp [livKAt,liveOk,gm,gv,gw])
        | (repeat (first | refine ⟨by omega,?_⟩ | refine ⟨⟨by omega,by omega⟩,?_⟩)
           refine ACallK_of (f266_ok _ _) ?_
           simp -dsimp [h1,ne_of_lt h1,hz,w,t1,h3,g1,g2,g3,g4,gm,gv,gw]
           refine ⟨fun h => livKsOk_false h1 (by simp [livKAt,liveOk,hn,show before _ _ = false by rw [before_cmp]; simpa using h]),fun h => Back_of (i + 1) [0,1,7,8,9] [] rfl rfl (by simp; rw [wrap64 (by omega) (by omega)]) ⟨by omega,allB_succ hall (by simp [livKAt,liveOk,g1,g2,g3,g4,gm,gv,gw,show before _ _ = true by rw [before_cmp]; simpa using h])⟩ (by omega)⟩))
  · simp -dsimp [Nat.not_lt.2 h1]
    obtain rfl:i = l.length:=by omega
    rw [livKsOk_end hall,Bool.eq_iff_iff]
    simp
    omega
@[simp] def h258:Hts:={ merge:=fun _ => false,mergeF:=fun _ => false,dr:=fun id => if id = 6 then [{},{},{},{},{},{},{},{},{},{},{},{ cr:=true },{},{}] else [] }
set_option maxHeartbeats 1000000 in
theorem f258_ok (l:List GCell) (k:List Int) (ha:l.length ≤ 1073741824) (hk:k.length ≤ 1073741824) (he:∀ x,x ∈ l → x.Ok):FnR Tryz.prog 258 [.v (.im l.length (flat l)),.v (.im k.length (flat k))] (.v (.bool (celKsOk l k))):=by
  refine FnW.of_AW TryzT_ok 0 (fn:=Tryz.f258) (by kernel_rfl) rfl (by kernel_rfl) rfl rfl rfl ?_; refine AW_of h258 TryzT_ok (by kernel_rfl) ?_
  simp -dsimp
  refine AWh_loop (fun i:Nat => i ≤ l.length ∧ allB (celKAt l k) i = true) (fun i => mkE [(0,.c (.im l.length (flat l))),(1,.c (.im k.length (flat k))),(7,.c (.im l.length (flat l))),(8,.c (.int .i64 l.length)),(9,.c (.int .i64 i))] []) (fun i => l.length - i) 0 (Wk_to [0,1,7,8,9] [] rfl rfl (by simp)) (by simp [allB]) ?_
  rintro i ⟨hi,hall⟩
  refine AW_of h258 TryzT_ok (by kernel_rfl) ?_
  rcases Nat.lt_or_ge i l.length with h1 | h1
  · have hm:=he _ (nth_mem h1)
    simp only [GCell.Ok] at hm
    rcases Nat.eq_zero_or_pos i with hz | hz
    · have hz':¬ 0 < i:=by omega
      simp -dsimp [h1,ne_of_lt h1,hz']
      refine ⟨by omega,?_⟩
      refine ACallK_of (f125_ok _ _ hk) ?_
      cases g1:knows k (nth l i).dot
      · simp -dsimp [h1,ne_of_lt h1,hz']
        exact celKsOk_false h1 (by simp [celKAt,cellOk',g1])
      simp -dsimp [h1,ne_of_lt h1,hz',g1]
      refine ACallK_of (f283_ok _ (by omega)) ?_
      cases g2:nameOk (nth l i).obj
      · simp -dsimp [h1,ne_of_lt h1,hz']
        exact celKsOk_false h1 (by simp [celKAt,cellOk',g2])
      simp -dsimp [h1,ne_of_lt h1,hz',g2]
      refine ACallK_of (f156_ok _ _ _) ?_
      cases g3:spIn (nth l i).val 0 999999
      · simp -dsimp [h1,ne_of_lt h1,hz']
        exact celKsOk_false h1 (by simp [celKAt,cellOk',g3])
      simp -dsimp [h1,ne_of_lt h1,hz',g3]
      refine ACallK_of (f156_ok _ _ _) ?_
      cases g4:spIn (nth l i).time 1 10000
      · simp -dsimp [h1,ne_of_lt h1,hz']
        exact celKsOk_false h1 (by simp [celKAt,cellOk',g4])
      simp -dsimp [h1,ne_of_lt h1,hz',g1,g2,g3,g4]
      exact Back_of (i + 1) [0,1,7,8,9] [] rfl rfl (by simp; rw [wrap64 (by omega) (by omega)]) ⟨by omega,allB_succ hall (by subst hz; simp [celKAt,cellOk',g1,g2,g3,g4])⟩ (by omega)
    · have w:IntKind.i64.wrap ((i:Int) - 1) = i - 1:=wrap64 (by omega) (by omega)
      have t1:((i:Int) - 1).toNat = i - 1:=by omega
      have h3:i - 1 < l.length:=by omega
      have hn:¬ i = 0:=by omega
      simp -dsimp [h1,ne_of_lt h1,hz,w,t1,h3]
      refine ⟨by omega,?_⟩
      refine ACallK_of (f125_ok _ _ hk) ?_
      cases g1:knows k (nth l i).dot
      · simp -dsimp [h1,ne_of_lt h1,hz,w,t1,h3]
        exact celKsOk_false h1 (by simp [celKAt,cellOk',g1])
      simp -dsimp [h1,ne_of_lt h1,hz,w,t1,h3,g1]
      refine ACallK_of (f283_ok _ (by omega)) ?_
      cases g2:nameOk (nth l i).obj
      · simp -dsimp [h1,ne_of_lt h1,hz,w,t1,h3]
        exact celKsOk_false h1 (by simp [celKAt,cellOk',g2])
      simp -dsimp [h1,ne_of_lt h1,hz,w,t1,h3,g2]
      refine ACallK_of (f156_ok _ _ _) ?_
      cases g3:spIn (nth l i).val 0 999999
      · simp -dsimp [h1,ne_of_lt h1,hz,w,t1,h3]
        exact celKsOk_false h1 (by simp [celKAt,cellOk',g3])
      simp -dsimp [h1,ne_of_lt h1,hz,w,t1,h3,g3]
      refine ACallK_of (f156_ok _ _ _) ?_
      cases g4:spIn (nth l i).time 1 10000
      · simp -dsimp [h1,ne_of_lt h1,hz,w,t1,h3]
        exact celKsOk_false h1 (by simp [celKAt,cellOk',g4])
      simp -dsimp [h1,ne_of_lt h1,hz,w,t1,h3,g1,g2,g3,g4]
      repeat (first | refine ⟨by omega,?_⟩ | refine ⟨⟨by omega,by omega⟩,?_⟩)
      refine ACallK_of (f266_ok _ _) ?_
      simp -dsimp [h1,ne_of_lt h1,hz,w,t1,h3,g1,g2,g3,g4]
      refine ⟨fun h => celKsOk_false h1 (by simp [celKAt,cellOk',hn,show before _ _ = false by rw [before_cmp]; simpa using h]),fun h => Back_of (i + 1) [0,1,7,8,9] [] rfl rfl (by simp; rw [wrap64 (by omega) (by omega)]) ⟨by omega,allB_succ hall (by simp [celKAt,cellOk',g1,g2,g3,g4,show before _ _ = true by rw [before_cmp]; simpa using h])⟩ (by omega)⟩
  · simp -dsimp [Nat.not_lt.2 h1]
    obtain rfl:i = l.length:=by omega
    rw [celKsOk_end hall,Bool.eq_iff_iff]
    simp
    omega
end Am
namespace Am
open Go Go.Proofs
open Cel (cells)
set_option maxRecDepth 100000
@[simp] def h205:Hts:={ merge:=fun _ => false,mergeF:=fun _ => false,dr:=fun id => if id = 5 then [{},{},{ cr:=true },{},{},{},{},{ cr:=true },{},{},{},{},{},{ cr:=true },{},{},{},{},{},{ cr:=true },{},{},{},{},{},{},{},{},{},{},{ cr:=true },{},{},{},{},{},{},{},{},{},{},{},{},{},{},{},{ cr:=true },{},{},{}] else [] }
set_option maxHeartbeats 4000000 in
theorem f205_ok (l:List GCell) (ha:l.length ≤ 1073741824) (he:∀ x,x ∈ l → x.Ok):FnR Tryz.prog 205 [.v (.im l.length (flat l))] (.v (.bool (celsOk l))):=by
  refine FnW.of_AW TryzT_ok 0 (fn:=Tryz.f205) (by kernel_rfl) rfl (by kernel_rfl) rfl rfl rfl ?_; refine AW_of h205 TryzT_ok (by kernel_rfl) ?_
  simp -dsimp
  refine AWh_loop (fun i:Nat => i ≤ l.length ∧ allB (celAt l) i = true) (fun i => mkE [(0,.c (.im l.length (flat l))),(3,.c (.int .i64 i))] []) (fun i => l.length - i) 0 (Wk_to [0,3] [] rfl rfl (by simp)) (by simp [allB]) ?_
  rintro i ⟨hi,hall⟩
  refine AW_of h205 TryzT_ok (by kernel_rfl) ?_
  rcases Nat.lt_or_ge i l.length with h1 | h1
  · have hm:=he _ (nth_mem h1)
    simp only [GCell.Ok] at hm
    rcases Nat.eq_zero_or_pos i with hz | hz
    · have hz':¬ 0 < i:=by omega
      simp -dsimp [h1,ne_of_lt h1,hz']
      refine ⟨by omega,?_⟩
      refine ACallK_of (f129_ok _) ?_
      cases g1:dotOk (nth l i).dot
      · simp -dsimp [h1,ne_of_lt h1,hz']
        exact celsOk_false h1 (by simp [celAt,cellOk',g1])
      simp -dsimp [h1,ne_of_lt h1,hz',g1]
      refine ACallK_of (f286_ok _ (by omega)) ?_
      cases g2:nameOk (nth l i).obj
      · simp -dsimp [h1,ne_of_lt h1,hz']
        exact celsOk_false h1 (by simp [celAt,cellOk',g2])
      simp -dsimp [h1,ne_of_lt h1,hz',g2]
      refine ACallK_of (f162_ok _ _ _) ?_
      cases g3:spIn (nth l i).time 1 10000
      · simp -dsimp [h1,ne_of_lt h1,hz']
        exact celsOk_false h1 (by simp [celAt,cellOk',g3])
      simp -dsimp [h1,ne_of_lt h1,hz',g3]
      refine ACallK_of (f162_ok _ _ _) ?_
      cases g4:spIn (nth l i).val 0 999999
      · simp -dsimp [h1,ne_of_lt h1,hz']
        exact celsOk_false h1 (by simp [celAt,cellOk',g4])
      rcases bne_cases (nth l i).ref.rep with ⟨r1,r2⟩ | ⟨r1,r2⟩ <;> rcases bne_cases (nth l i).ref.seq with ⟨q1,q2⟩ | ⟨q1,q2⟩
      · simp -dsimp [h1,ne_of_lt h1,hz',g1,g2,g3,g4,r1,r2,q1,q2]
        refine ACallK_of (f129_ok _) ?_
        cases g5:dotOk (nth l i).ref
        · simp -dsimp [h1,ne_of_lt h1,hz',g1,g2,g3,g4,r1,r2,q1,q2]
          exact celsOk_false h1 (by simp [celAt,cellOk',g5,r2,q2])
        simp -dsimp [h1,ne_of_lt h1,hz',g1,g2,g3,g4,r1,r2,q1,q2,g5]
        exact Back_of (i + 1) [0,3] [] rfl rfl (by simp; rw [wrap64 (by omega) (by omega)]) ⟨by omega,allB_succ hall (by subst hz; simp [celAt,cellOk',g1,g2,g3,g4,r1,r2,q1,q2,g5])⟩ (by omega)
      · simp -dsimp [h1,ne_of_lt h1,hz',g1,g2,g3,g4,r1,r2,q1,q2]
        refine ACallK_of (f129_ok _) ?_
        cases g5:dotOk (nth l i).ref
        · simp -dsimp [h1,ne_of_lt h1,hz',g1,g2,g3,g4,r1,r2,q1,q2]
          exact celsOk_false h1 (by simp [celAt,cellOk',g5,r2,q2])
        simp -dsimp [h1,ne_of_lt h1,hz',g1,g2,g3,g4,r1,r2,q1,q2,g5]
        exact Back_of (i + 1) [0,3] [] rfl rfl (by simp; rw [wrap64 (by omega) (by omega)]) ⟨by omega,allB_succ hall (by subst hz; simp [celAt,cellOk',g1,g2,g3,g4,r1,r2,q1,q2,g5])⟩ (by omega)
      · simp -dsimp [h1,ne_of_lt h1,hz',g1,g2,g3,g4,r1,r2,q1,q2]
        refine ACallK_of (f129_ok _) ?_
        cases g5:dotOk (nth l i).ref
        · simp -dsimp [h1,ne_of_lt h1,hz',g1,g2,g3,g4,r1,r2,q1,q2]
          exact celsOk_false h1 (by simp [celAt,cellOk',g5,r2,q2])
        simp -dsimp [h1,ne_of_lt h1,hz',g1,g2,g3,g4,r1,r2,q1,q2,g5]
        exact Back_of (i + 1) [0,3] [] rfl rfl (by simp; rw [wrap64 (by omega) (by omega)]) ⟨by omega,allB_succ hall (by subst hz; simp [celAt,cellOk',g1,g2,g3,g4,r1,r2,q1,q2,g5])⟩ (by omega)
      · simp -dsimp [h1,ne_of_lt h1,hz',g1,g2,g3,g4,r1,r2,q1,q2]
        exact Back_of (i + 1) [0,3] [] rfl rfl (by simp; rw [wrap64 (by omega) (by omega)]) ⟨by omega,allB_succ hall (by subst hz; simp [celAt,cellOk',g1,g2,g3,g4,r1,r2,q1,q2])⟩ (by omega)
    · have w:IntKind.i64.wrap ((i:Int) - 1) = i - 1:=wrap64 (by omega) (by omega)
      have t1:((i:Int) - 1).toNat = i - 1:=by omega
      have h3:i - 1 < l.length:=by omega
      have hn:¬ i = 0:=by omega
      simp -dsimp [h1,ne_of_lt h1,hz,w,t1,h3]
      refine ⟨by omega,?_⟩
      refine ACallK_of (f129_ok _) ?_
      cases g1:dotOk (nth l i).dot
      · simp -dsimp [h1,ne_of_lt h1,hz,w,t1,h3]
        exact celsOk_false h1 (by simp [celAt,cellOk',g1])
      simp -dsimp [h1,ne_of_lt h1,hz,w,t1,h3,g1]
      refine ACallK_of (f286_ok _ (by omega)) ?_
      cases g2:nameOk (nth l i).obj
      · simp -dsimp [h1,ne_of_lt h1,hz,w,t1,h3]
        exact celsOk_false h1 (by simp [celAt,cellOk',g2])
      simp -dsimp [h1,ne_of_lt h1,hz,w,t1,h3,g2]
      refine ACallK_of (f162_ok _ _ _) ?_
      cases g3:spIn (nth l i).time 1 10000
      · simp -dsimp [h1,ne_of_lt h1,hz,w,t1,h3]
        exact celsOk_false h1 (by simp [celAt,cellOk',g3])
      simp -dsimp [h1,ne_of_lt h1,hz,w,t1,h3,g3]
      refine ACallK_of (f162_ok _ _ _) ?_
      cases g4:spIn (nth l i).val 0 999999
      · simp -dsimp [h1,ne_of_lt h1,hz,w,t1,h3]
        exact celsOk_false h1 (by simp [celAt,cellOk',g4])
      rcases bne_cases (nth l i).ref.rep with ⟨r1,r2⟩ | ⟨r1,r2⟩ <;> rcases bne_cases (nth l i).ref.seq with ⟨q1,q2⟩ | ⟨q1,q2⟩
      · simp -dsimp [h1,ne_of_lt h1,hz,w,t1,h3,g1,g2,g3,g4,r1,r2,q1,q2]
        refine ACallK_of (f129_ok _) ?_
        cases g5:dotOk (nth l i).ref
        · simp -dsimp [h1,ne_of_lt h1,hz,w,t1,h3,g1,g2,g3,g4,r1,r2,q1,q2]
          exact celsOk_false h1 (by simp [celAt,cellOk',g5,r2,q2])
        simp -dsimp [h1,ne_of_lt h1,hz,w,t1,h3,g1,g2,g3,g4,r1,r2,q1,q2,g5]
        repeat (first | refine ⟨by omega,?_⟩ | refine ⟨⟨by omega,by omega⟩,?_⟩)
        refine ACallK_of (f277_ok _ _) ?_
        simp -dsimp [h1,ne_of_lt h1,hz,w,t1,h3,g1,g2,g3,g4,r1,r2,q1,q2,g5]
        refine ⟨fun h => celsOk_false h1 (by simp [celAt,cellOk',hn,h]),fun h => Back_of (i + 1) [0,3] [] rfl rfl (by simp; rw [wrap64 (by omega) (by omega)]) ⟨by omega,allB_succ hall (by simp [celAt,cellOk',g1,g2,g3,g4,r1,r2,q1,q2,g5,h])⟩ (by omega)⟩
      · simp -dsimp [h1,ne_of_lt h1,hz,w,t1,h3,g1,g2,g3,g4,r1,r2,q1,q2]
        refine ACallK_of (f129_ok _) ?_
        cases g5:dotOk (nth l i).ref
        · simp -dsimp [h1,ne_of_lt h1,hz,w,t1,h3,g1,g2,g3,g4,r1,r2,q1,q2]
          exact celsOk_false h1 (by simp [celAt,cellOk',g5,r2,q2])
        simp -dsimp [h1,ne_of_lt h1,hz,w,t1,h3,g1,g2,g3,g4,r1,r2,q1,q2,g5]
        repeat (first | refine ⟨by omega,?_⟩ | refine ⟨⟨by omega,by omega⟩,?_⟩)
        refine ACallK_of (f277_ok _ _) ?_
        simp -dsimp [h1,ne_of_lt h1,hz,w,t1,h3,g1,g2,g3,g4,r1,r2,q1,q2,g5]
        refine ⟨fun h => celsOk_false h1 (by simp [celAt,cellOk',hn,h]),fun h => Back_of (i + 1) [0,3] [] rfl rfl (by simp; rw [wrap64 (by omega) (by omega)]) ⟨by omega,allB_succ hall (by simp [celAt,cellOk',g1,g2,g3,g4,r1,r2,q1,q2,g5,h])⟩ (by omega)⟩
      · simp -dsimp [h1,ne_of_lt h1,hz,w,t1,h3,g1,g2,g3,g4,r1,r2,q1,q2]
        refine ACallK_of (f129_ok _) ?_
        cases g5:dotOk (nth l i).ref
        · simp -dsimp [h1,ne_of_lt h1,hz,w,t1,h3,g1,g2,g3,g4,r1,r2,q1,q2]
          exact celsOk_false h1 (by simp [celAt,cellOk',g5,r2,q2])
        simp -dsimp [h1,ne_of_lt h1,hz,w,t1,h3,g1,g2,g3,g4,r1,r2,q1,q2,g5]
        repeat (first | refine ⟨by omega,?_⟩ | refine ⟨⟨by omega,by omega⟩,?_⟩)
        refine ACallK_of (f277_ok _ _) ?_
        simp -dsimp [h1,ne_of_lt h1,hz,w,t1,h3,g1,g2,g3,g4,r1,r2,q1,q2,g5]
        refine ⟨fun h => celsOk_false h1 (by simp [celAt,cellOk',hn,h]),fun h => Back_of (i + 1) [0,3] [] rfl rfl (by simp; rw [wrap64 (by omega) (by omega)]) ⟨by omega,allB_succ hall (by simp [celAt,cellOk',g1,g2,g3,g4,r1,r2,q1,q2,g5,h])⟩ (by omega)⟩
      · simp -dsimp [h1,ne_of_lt h1,hz,w,t1,h3,g1,g2,g3,g4,r1,r2,q1,q2]
        repeat (first | refine ⟨by omega,?_⟩ | refine ⟨⟨by omega,by omega⟩,?_⟩)
        refine ACallK_of (f277_ok _ _) ?_
        simp -dsimp [h1,ne_of_lt h1,hz,w,t1,h3,g1,g2,g3,g4,r1,r2,q1,q2]
        refine ⟨fun h => celsOk_false h1 (by simp [celAt,cellOk',hn,h]),fun h => Back_of (i + 1) [0,3] [] rfl rfl (by simp; rw [wrap64 (by omega) (by omega)]) ⟨by omega,allB_succ hall (by simp [celAt,cellOk',g1,g2,g3,g4,r1,r2,q1,q2,h])⟩ (by omega)⟩
  · simp -dsimp [Nat.not_lt.2 h1]
    obtain rfl:i = l.length:=by omega
    rw [celsOk_end hall,Bool.eq_iff_iff]
    simp
    omega
end Am
