/- Counters,lives and cells in their order. No condition. -/
import Derived.Test.YtjbbhccphedkfaaGreatT
import Derived.Test.YtjbbhccphedkfaaGreatD
import Derived.Test.YtjbbhccphedkfaaGreatE2
import Derived.Test.YtjbbhccphedkfaaGreatAm29
import Derived.Test.YtjbbhccphedkfaaGreatAm31
set_option linter.unusedSimpArgs false
set_option linter.unusedVariables false
set_option linter.unnecessarySimpa false
set_option linter.unusedSectionVars false
namespace Am
open Go Go.Proofs
open Cel (cells)
set_option maxRecDepth 100000
theorem bne_cases (x:Int):((x != 0) = true ∧ (x == 0) = false) ∨ ((x != 0) = false ∧ (x == 0) = true):=by
  by_cases h:x = 0 <;> simp [h]
def zeroDot:GDot:=⟨0,0⟩
def liveOk (x:GLive):Bool:=nameOk x.obj && nameOk x.key && spIn x.val 0 999999 && (x.map || x.val == 0)
def livAt (l:List GLive) (i:Nat):Bool:=dotOk (nth l i).dot && liveOk (nth l i) && (decide (i = 0) || before (nth l (i - 1)).dot (nth l i).dot)
def livsOk (l:List GLive):Bool:=decide (l.length ≤ 120) && allB (livAt l) l.length
theorem livsOk_false {l:List GLive} {i:Nat} (h1:i < l.length) (h:livAt l i = false):livsOk l = false:=by
  simp only [livsOk,allB_false h1 h,Bool.and_false]
theorem livsOk_end {l:List GLive} (h:allB (livAt l) l.length = true):livsOk l = decide (l.length ≤ 120):=by
  simp only [livsOk,h,Bool.and_true]
def livKAt (l:List GLive) (k:List Int) (i:Nat):Bool:=knows k (nth l i).dot && liveOk (nth l i) && (decide (i = 0) || before (nth l (i - 1)).dot (nth l i).dot)
def livKsOk (l:List GLive) (k:List Int):Bool:=decide (l.length ≤ 120) && allB (livKAt l k) l.length
theorem livKsOk_false {l:List GLive} {k:List Int} {i:Nat} (h1:i < l.length) (h:livKAt l k i = false):livKsOk l k = false:=by
  simp only [livKsOk,allB_false h1 h,Bool.and_false]
theorem livKsOk_end {l:List GLive} {k:List Int} (h:allB (livKAt l k) l.length = true):livKsOk l k = decide (l.length ≤ 120):=by
  simp only [livKsOk,h,Bool.and_true]
def cellOk' (x:GCell):Bool:=nameOk x.obj && spIn x.time 1 10000 && spIn x.val 0 999999
def celAt (l:List GCell) (i:Nat):Bool:=dotOk (nth l i).dot && cellOk' (nth l i) && (((nth l i).ref.rep == 0 && (nth l i).ref.seq == 0) || dotOk (nth l i).ref) && (decide (i = 0) || before (nth l (i - 1)).dot (nth l i).dot)
def celsOk (l:List GCell):Bool:=decide (l.length ≤ 120) && allB (celAt l) l.length
theorem celsOk_false {l:List GCell} {i:Nat} (h1:i < l.length) (h:celAt l i = false):celsOk l = false:=by
  simp only [celsOk,allB_false h1 h,Bool.and_false]
theorem celsOk_end {l:List GCell} (h:allB (celAt l) l.length = true):celsOk l = decide (l.length ≤ 120):=by
  simp only [celsOk,h,Bool.and_true]
def celKAt (l:List GCell) (k:List Int) (i:Nat):Bool:=knows k (nth l i).dot && cellOk' (nth l i) && (decide (i = 0) || before (nth l (i - 1)).dot (nth l i).dot)
def celKsOk (l:List GCell) (k:List Int):Bool:=decide (l.length ≤ 120) && allB (celKAt l k) l.length
theorem celKsOk_false {l:List GCell} {k:List Int} {i:Nat} (h1:i < l.length) (h:celKAt l k i = false):celKsOk l k = false:=by
  simp only [celKsOk,allB_false h1 h,Bool.and_false]
theorem celKsOk_end {l:List GCell} {k:List Int} (h:allB (celKAt l k) l.length = true):celKsOk l k = decide (l.length ≤ 120):=by
  simp only [celKsOk,h,Bool.and_true]
def talsOk (l:List GTally):Bool:=talliesOk l
theorem before_cmp (a b:GDot):before a b = decide (cmpDot a b < 0):=by
  have:=cmpDot_before a b
  cases h:before a b <;> simp [h] at this <;> simp <;> omega
theorem tallyLt_cmp (a b:GTally):tallyLt a b = decide (cmpTally a b < 0):=by
  have:=cmpTally_lt a b
  cases h:tallyLt a b <;> simp [h] at this <;> simp <;> omega
theorem talsOk_false {l:List GTally} {i:Nat} (h1:i < l.length) (h:talAt l i = false):talsOk l = false:=talliesOk_false h1 h
theorem talsOk_end {l:List GTally} (h:allB (talAt l) l.length = true):talsOk l = decide (l.length ≤ 120):=talliesOk_end h
@[simp] def h98:Hts:={ merge:=fun _ => false,mergeF:=fun _ => false,dr:=fun id => if id = 4 then [{},{},{ cr:=true },{},{},{},{},{ cr:=true },{},{},{},{},{},{ cr:=true },{},{},{},{},{},{},{},{},{},{},{},{},{ cr:=true },{},{},{}] else [] }
set_option maxHeartbeats 1000000 in
theorem f98_ok (l:List GTally) (ha:l.length ≤ 1073741824) (he:∀ x,x ∈ l → x.Ok):FnR Tryz.prog 98 [.v (.im l.length (flat l))] (.v (.bool (talsOk l))):=by
  refine FnW.of_AW TryzT_ok 0 (fn:=Tryz.f98) (by kernel_rfl) rfl (by kernel_rfl) rfl rfl rfl ?_; refine AW_of h98 TryzT_ok (by kernel_rfl) ?_
  simp -dsimp
  refine AWh_loop (fun i:Nat => i ≤ l.length ∧ allB (talAt l) i = true) (fun i => mkE [(0,.c (.im l.length (flat l))),(5,.c (.im l.length (flat l))),(6,.c (.int .i64 l.length)),(7,.c (.int .i64 i))] []) (fun i => l.length - i) 0 (Wk_to [0,5,6,7] [] rfl rfl (by simp)) (by simp [allB]) ?_
  rintro i ⟨hi,hall⟩
  refine AW_of h98 TryzT_ok (by kernel_rfl) ?_
  rcases Nat.lt_or_ge i l.length with h1 | h1
  · have hm:=he _ (nth_mem h1)
    simp only [GTally.Ok] at hm
    rcases Nat.eq_zero_or_pos i with hz | hz
    · have hz':¬ 0 < i:=by omega
      simp -dsimp [h1,ne_of_lt h1,hz']
      refine ⟨by omega,?_⟩
      refine ACallK_of (f157_ok _ (by omega)) ?_
      cases g1:nameOk (nth l i).obj
      · simp -dsimp [h1,ne_of_lt h1,hz']
        exact talsOk_false h1 (by simp [talAt,tallyOk,g1])
      simp -dsimp [h1,ne_of_lt h1,hz',g1]
      refine ACallK_of (f137_ok _ _ _) ?_
      cases g2:spIn (nth l i).rep 0 2
      · simp -dsimp [h1,ne_of_lt h1,hz']
        exact talsOk_false h1 (by simp [talAt,tallyOk,g2])
      simp -dsimp [h1,ne_of_lt h1,hz',g2]
      refine ACallK_of (f137_ok _ _ _) ?_
      cases g3:spIn (nth l i).sum 0 999999
      · simp -dsimp [h1,ne_of_lt h1,hz']
        exact talsOk_false h1 (by simp [talAt,tallyOk,g3])
      simp -dsimp [h1,ne_of_lt h1,hz',g1,g2,g3]
      exact Back_of (i + 1) [0,5,6,7] [] rfl rfl (by simp; rw [wrap64 (by omega) (by omega)]) ⟨by omega,allB_succ hall (by subst hz; simp [talAt,tallyOk,g1,g2,g3])⟩ (by omega)
    · have w:IntKind.i64.wrap ((i:Int) - 1) = i - 1:=wrap64 (by omega) (by omega)
      have t1:((i:Int) - 1).toNat = i - 1:=by omega
      have h3:i - 1 < l.length:=by omega
      have hn:¬ i = 0:=by omega
      simp -dsimp [h1,ne_of_lt h1,hz,w,t1,h3]
      refine ⟨by omega,?_⟩
      refine ACallK_of (f157_ok _ (by omega)) ?_
      cases g1:nameOk (nth l i).obj
      · simp -dsimp [h1,ne_of_lt h1,hz,w,t1,h3]
        exact talsOk_false h1 (by simp [talAt,tallyOk,g1])
      simp -dsimp [h1,ne_of_lt h1,hz,w,t1,h3,g1]
      refine ACallK_of (f137_ok _ _ _) ?_
      cases g2:spIn (nth l i).rep 0 2
      · simp -dsimp [h1,ne_of_lt h1,hz,w,t1,h3]
        exact talsOk_false h1 (by simp [talAt,tallyOk,g2])
      simp -dsimp [h1,ne_of_lt h1,hz,w,t1,h3,g2]
      refine ACallK_of (f137_ok _ _ _) ?_
      cases g3:spIn (nth l i).sum 0 999999
      · simp -dsimp [h1,ne_of_lt h1,hz,w,t1,h3]
        exact talsOk_false h1 (by simp [talAt,tallyOk,g3])
      simp -dsimp [h1,ne_of_lt h1,hz,w,t1,h3,g1,g2,g3]
      repeat (first | refine ⟨by omega,?_⟩ | refine ⟨⟨by omega,by omega⟩,?_⟩)
      refine ACallK_of (f158_ok _ _) ?_
      simp -dsimp [h1,ne_of_lt h1,hz,w,t1,h3,g1,g2,g3]
      refine ⟨fun h => talsOk_false h1 (by simp [talAt,tallyOk,hn,show tallyLt _ _ = false by rw [tallyLt_cmp]; simpa using h]),fun h => Back_of (i + 1) [0,5,6,7] [] rfl rfl (by simp; rw [wrap64 (by omega) (by omega)]) ⟨by omega,allB_succ hall (by simp [talAt,tallyOk,g1,g2,g3,show tallyLt _ _ = true by rw [tallyLt_cmp]; simpa using h])⟩ (by omega)⟩
  · simp -dsimp [Nat.not_lt.2 h1]
    obtain rfl:i = l.length:=by omega
    rw [talsOk_end hall,Bool.eq_iff_iff]
    simp
    omega
@[simp] def h65:Hts:={ merge:=fun _ => false,mergeF:=fun _ => false,dr:=fun id => if id = 5 then [{},{},{ cr:=true },{},{},{},{},{ cr:=true },{},{},{},{},{},{ cr:=true },{},{},{},{},{},{ cr:=true },{},{},{},{},{},{},{},{},{},{},{},{},{},{},{},{},{},{},{},{},{},{},{},{},{ cr:=true },{},{},{}] else [] }
set_option maxHeartbeats 1000000 in
theorem f65_ok (l:List GLive) (ha:l.length ≤ 1073741824) (he:∀ x,x ∈ l → x.Ok):FnR Tryz.prog 65 [.v (.im l.length (flat l))] (.v (.bool (livsOk l))):=by
  refine FnW.of_AW TryzT_ok 0 (fn:=Tryz.f65) (by kernel_rfl) rfl (by kernel_rfl) rfl rfl rfl ?_; refine AW_of h65 TryzT_ok (by kernel_rfl) ?_
  simp -dsimp
  refine AWh_loop (fun i:Nat => i ≤ l.length ∧ allB (livAt l) i = true) (fun i => mkE [(0,.c (.im l.length (flat l))),(3,.c (.int .i64 i))] []) (fun i => l.length - i) 0 (Wk_to [0,3] [] rfl rfl (by simp)) (by simp [allB]) ?_
  rintro i ⟨hi,hall⟩
  refine AW_of h65 TryzT_ok (by kernel_rfl) ?_
  rcases Nat.lt_or_ge i l.length with h1 | h1
  · have hm:=he _ (nth_mem h1)
    simp only [GLive.Ok] at hm
    rcases Nat.eq_zero_or_pos i with hz | hz
    · have hz':¬ 0 < i:=by omega
      simp -dsimp [h1,ne_of_lt h1,hz']
      refine ⟨by omega,?_⟩
      refine ACallK_of (f129_ok _) ?_
      cases g1:dotOk (nth l i).dot
      · simp -dsimp [h1,ne_of_lt h1,hz']
        exact livsOk_false h1 (by simp [livAt,liveOk,g1])
      simp -dsimp [h1,ne_of_lt h1,hz',g1]
      refine ACallK_of (f128_ok _ (by omega)) ?_
      cases g2:nameOk (nth l i).obj
      · simp -dsimp [h1,ne_of_lt h1,hz']
        exact livsOk_false h1 (by simp [livAt,liveOk,g2])
      simp -dsimp [h1,ne_of_lt h1,hz',g2]
      refine ACallK_of (f128_ok _ (by omega)) ?_
      cases g3:nameOk (nth l i).key
      · simp -dsimp [h1,ne_of_lt h1,hz']
        exact livsOk_false h1 (by simp [livAt,liveOk,g3])
      simp -dsimp [h1,ne_of_lt h1,hz',g3]
      refine ACallK_of (f86_ok _ _ _) ?_
      cases g4:spIn (nth l i).val 0 999999
      · simp -dsimp [h1,ne_of_lt h1,hz']
        exact livsOk_false h1 (by simp [livAt,liveOk,g4])
      cases gm:(nth l i).map <;> rcases bne_cases (nth l i).val with ⟨gv,gw⟩ | ⟨gv,gw⟩
      all_goals (
        simp -dsimp [h1,ne_of_lt h1,hz',g1,g2,g3,g4,gm,gv,gw]
        first
        | exact livsOk_false h1 (by simp [livAt,liveOk,gm,gv,gw])
        | exact Back_of (i + 1) [0,3] [] rfl rfl (by simp; rw [wrap64 (by omega) (by omega)]) ⟨by omega,allB_succ hall (by subst hz; simp [livAt,liveOk,g1,g2,g3,g4,gm,gv,gw])⟩ (by omega))
    · have w:IntKind.i64.wrap ((i:Int) - 1) = i - 1:=wrap64 (by omega) (by omega)
      have t1:((i:Int) - 1).toNat = i - 1:=by omega
      have h3:i - 1 < l.length:=by omega
      have hn:¬ i = 0:=by omega
      simp -dsimp [h1,ne_of_lt h1,hz,w,t1,h3]
      refine ⟨by omega,?_⟩
      refine ACallK_of (f129_ok _) ?_
      cases g1:dotOk (nth l i).dot
      · simp -dsimp [h1,ne_of_lt h1,hz,w,t1,h3]
        exact livsOk_false h1 (by simp [livAt,liveOk,g1])
      simp -dsimp [h1,ne_of_lt h1,hz,w,t1,h3,g1]
      refine ACallK_of (f128_ok _ (by omega)) ?_
      cases g2:nameOk (nth l i).obj
      · simp -dsimp [h1,ne_of_lt h1,hz,w,t1,h3]
        exact livsOk_false h1 (by simp [livAt,liveOk,g2])
      simp -dsimp [h1,ne_of_lt h1,hz,w,t1,h3,g2]
      refine ACallK_of (f128_ok _ (by omega)) ?_
      cases g3:nameOk (nth l i).key
      · simp -dsimp [h1,ne_of_lt h1,hz,w,t1,h3]
        exact livsOk_false h1 (by simp [livAt,liveOk,g3])
      simp -dsimp [h1,ne_of_lt h1,hz,w,t1,h3,g3]
      refine ACallK_of (f86_ok _ _ _) ?_
      cases g4:spIn (nth l i).val 0 999999
      · simp -dsimp [h1,ne_of_lt h1,hz,w,t1,h3]
        exact livsOk_false h1 (by simp [livAt,liveOk,g4])
      cases gm:(nth l i).map <;> rcases bne_cases (nth l i).val with ⟨gv,gw⟩ | ⟨gv,gw⟩
      all_goals (
        simp -dsimp [h1,ne_of_lt h1,hz,w,t1,h3,g1,g2,g3,g4,gm,gv,gw]
        first
        | exact livsOk_false h1 (by simp [livAt,liveOk,gm,gv,gw])
        | (repeat (first | refine ⟨by omega,?_⟩ | refine ⟨⟨by omega,by omega⟩,?_⟩)
           refine ACallK_of (f130_ok _ _) ?_
           simp -dsimp [h1,ne_of_lt h1,hz,w,t1,h3,g1,g2,g3,g4,gm,gv,gw]
           refine ⟨fun h => livsOk_false h1 (by simp [livAt,liveOk,hn,h]),fun h => Back_of (i + 1) [0,3] [] rfl rfl (by simp; rw [wrap64 (by omega) (by omega)]) ⟨by omega,allB_succ hall (by simp [livAt,liveOk,g1,g2,g3,g4,gm,gv,gw,h])⟩ (by omega)⟩))
  · simp -dsimp [Nat.not_lt.2 h1]
    obtain rfl:i = l.length:=by omega
    rw [livsOk_end hall,Bool.eq_iff_iff]
    simp
    omega
@[simp] def h99:Hts:={ merge:=fun _ => false,mergeF:=fun _ => false,dr:=fun id => if id = 6 then [{},{},{},{},{},{},{},{},{},{},{},{ cr:=true },{},{}] else [] }
set_option maxHeartbeats 1000000 in
theorem f99_ok (l:List GLive) (k:List Int) (ha:l.length ≤ 1073741824) (hk:k.length ≤ 1073741824) (he:∀ x,x ∈ l → x.Ok):FnR Tryz.prog 99 [.v (.im l.length (flat l)),.v (.im k.length (flat k))] (.v (.bool (livKsOk l k))):=by
  refine FnW.of_AW TryzT_ok 0 (fn:=Tryz.f99) (by kernel_rfl) rfl (by kernel_rfl) rfl rfl rfl ?_; refine AW_of h99 TryzT_ok (by kernel_rfl) ?_
  simp -dsimp
  refine AWh_loop (fun i:Nat => i ≤ l.length ∧ allB (livKAt l k) i = true) (fun i => mkE [(0,.c (.im l.length (flat l))),(1,.c (.im k.length (flat k))),(7,.c (.im l.length (flat l))),(8,.c (.int .i64 l.length)),(9,.c (.int .i64 i))] []) (fun i => l.length - i) 0 (Wk_to [0,1,7,8,9] [] rfl rfl (by simp)) (by simp [allB]) ?_
  rintro i ⟨hi,hall⟩
  refine AW_of h99 TryzT_ok (by kernel_rfl) ?_
  rcases Nat.lt_or_ge i l.length with h1 | h1
  · have hm:=he _ (nth_mem h1)
    simp only [GLive.Ok] at hm
    rcases Nat.eq_zero_or_pos i with hz | hz
    · have hz':¬ 0 < i:=by omega
      simp -dsimp [h1,ne_of_lt h1,hz']
      refine ⟨by omega,?_⟩
      refine ACallK_of (f113_ok _ _ hk) ?_
      cases g1:knows k (nth l i).dot
      · simp -dsimp [h1,ne_of_lt h1,hz']
        exact livKsOk_false h1 (by simp [livKAt,liveOk,g1])
      simp -dsimp [h1,ne_of_lt h1,hz',g1]
      refine ACallK_of (f157_ok _ (by omega)) ?_
      cases g2:nameOk (nth l i).obj
      · simp -dsimp [h1,ne_of_lt h1,hz']
        exact livKsOk_false h1 (by simp [livKAt,liveOk,g2])
      simp -dsimp [h1,ne_of_lt h1,hz',g2]
      refine ACallK_of (f157_ok _ (by omega)) ?_
      cases g3:nameOk (nth l i).key
      · simp -dsimp [h1,ne_of_lt h1,hz']
        exact livKsOk_false h1 (by simp [livKAt,liveOk,g3])
      simp -dsimp [h1,ne_of_lt h1,hz',g3]
      refine ACallK_of (f137_ok _ _ _) ?_
      cases g4:spIn (nth l i).val 0 999999
      · simp -dsimp [h1,ne_of_lt h1,hz']
        exact livKsOk_false h1 (by simp [livKAt,liveOk,g4])
      cases gm:(nth l i).map <;> rcases bne_cases (nth l i).val with ⟨gv,gw⟩ | ⟨gv,gw⟩
      all_goals (
        simp -dsimp [h1,ne_of_lt h1,hz',g1,g2,g3,g4,gm,gv,gw]
        first
        | exact livKsOk_false h1 (by simp [livKAt,liveOk,gm,gv,gw])
        | exact Back_of (i + 1) [0,1,7,8,9] [] rfl rfl (by simp; rw [wrap64 (by omega) (by omega)]) ⟨by omega,allB_succ hall (by subst hz; simp [livKAt,liveOk,g1,g2,g3,g4,gm,gv,gw])⟩ (by omega))
    · have w:IntKind.i64.wrap ((i:Int) - 1) = i - 1:=wrap64 (by omega) (by omega)
      have t1:((i:Int) - 1).toNat = i - 1:=by omega
      have h3:i - 1 < l.length:=by omega
      have hn:¬ i = 0:=by omega
      simp -dsimp [h1,ne_of_lt h1,hz,w,t1,h3]
      refine ⟨by omega,?_⟩
      refine ACallK_of (f113_ok _ _ hk) ?_
      cases g1:knows k (nth l i).dot
      · simp -dsimp [h1,ne_of_lt h1,hz,w,t1,h3]
        exact livKsOk_false h1 (by simp [livKAt,liveOk,g1])
      simp -dsimp [h1,ne_of_lt h1,hz,w,t1,h3,g1]
      refine ACallK_of (f157_ok _ (by omega)) ?_
      cases g2:nameOk (nth l i).obj
      · simp -dsimp [h1,ne_of_lt h1,hz,w,t1,h3]
        exact livKsOk_false h1 (by simp [livKAt,liveOk,g2])
      simp -dsimp [h1,ne_of_lt h1,hz,w,t1,h3,g2]
      refine ACallK_of (f157_ok _ (by omega)) ?_
      cases g3:nameOk (nth l i).key
      · simp -dsimp [h1,ne_of_lt h1,hz,w,t1,h3]
        exact livKsOk_false h1 (by simp [livKAt,liveOk,g3])
      simp -dsimp [h1,ne_of_lt h1,hz,w,t1,h3,g3]
      refine ACallK_of (f137_ok _ _ _) ?_
      cases g4:spIn (nth l i).val 0 999999
      · simp -dsimp [h1,ne_of_lt h1,hz,w,t1,h3]
        exact livKsOk_false h1 (by simp [livKAt,liveOk,g4])
      cases gm:(nth l i).map <;> rcases bne_cases (nth l i).val with ⟨gv,gw⟩ | ⟨gv,gw⟩
      all_goals (
        simp -dsimp [h1,ne_of_lt h1,hz,w,t1,h3,g1,g2,g3,g4,gm,gv,gw]
        first
        | exact livKsOk_false h1 (by simp [livKAt,liveOk,gm,gv,gw])
        | (repeat (first | refine ⟨by omega,?_⟩ | refine ⟨⟨by omega,by omega⟩,?_⟩)
           refine ACallK_of (f114_ok _ _) ?_
           simp -dsimp [h1,ne_of_lt h1,hz,w,t1,h3,g1,g2,g3,g4,gm,gv,gw]
           refine ⟨fun h => livKsOk_false h1 (by simp [livKAt,liveOk,hn,show before _ _ = false by rw [before_cmp]; simpa using h]),fun h => Back_of (i + 1) [0,1,7,8,9] [] rfl rfl (by simp; rw [wrap64 (by omega) (by omega)]) ⟨by omega,allB_succ hall (by simp [livKAt,liveOk,g1,g2,g3,g4,gm,gv,gw,show before _ _ = true by rw [before_cmp]; simpa using h])⟩ (by omega)⟩))
  · simp -dsimp [Nat.not_lt.2 h1]
    obtain rfl:i = l.length:=by omega
    rw [livKsOk_end hall,Bool.eq_iff_iff]
    simp
    omega
@[simp] def h100:Hts:={ merge:=fun _ => false,mergeF:=fun _ => false,dr:=fun id => if id = 6 then [{},{},{},{},{},{},{},{},{},{},{},{ cr:=true },{},{}] else [] }
set_option maxHeartbeats 1000000 in
theorem f100_ok (l:List GCell) (k:List Int) (ha:l.length ≤ 1073741824) (hk:k.length ≤ 1073741824) (he:∀ x,x ∈ l → x.Ok):FnR Tryz.prog 100 [.v (.im l.length (flat l)),.v (.im k.length (flat k))] (.v (.bool (celKsOk l k))):=by
  refine FnW.of_AW TryzT_ok 0 (fn:=Tryz.f100) (by kernel_rfl) rfl (by kernel_rfl) rfl rfl rfl ?_; refine AW_of h100 TryzT_ok (by kernel_rfl) ?_
  simp -dsimp
  refine AWh_loop (fun i:Nat => i ≤ l.length ∧ allB (celKAt l k) i = true) (fun i => mkE [(0,.c (.im l.length (flat l))),(1,.c (.im k.length (flat k))),(7,.c (.im l.length (flat l))),(8,.c (.int .i64 l.length)),(9,.c (.int .i64 i))] []) (fun i => l.length - i) 0 (Wk_to [0,1,7,8,9] [] rfl rfl (by simp)) (by simp [allB]) ?_
  rintro i ⟨hi,hall⟩
  refine AW_of h100 TryzT_ok (by kernel_rfl) ?_
  rcases Nat.lt_or_ge i l.length with h1 | h1
  · have hm:=he _ (nth_mem h1)
    simp only [GCell.Ok] at hm
    rcases Nat.eq_zero_or_pos i with hz | hz
    · have hz':¬ 0 < i:=by omega
      simp -dsimp [h1,ne_of_lt h1,hz']
      refine ⟨by omega,?_⟩
      refine ACallK_of (f113_ok _ _ hk) ?_
      cases g1:knows k (nth l i).dot
      · simp -dsimp [h1,ne_of_lt h1,hz']
        exact celKsOk_false h1 (by simp [celKAt,cellOk',g1])
      simp -dsimp [h1,ne_of_lt h1,hz',g1]
      refine ACallK_of (f157_ok _ (by omega)) ?_
      cases g2:nameOk (nth l i).obj
      · simp -dsimp [h1,ne_of_lt h1,hz']
        exact celKsOk_false h1 (by simp [celKAt,cellOk',g2])
      simp -dsimp [h1,ne_of_lt h1,hz',g2]
      refine ACallK_of (f137_ok _ _ _) ?_
      cases g3:spIn (nth l i).val 0 999999
      · simp -dsimp [h1,ne_of_lt h1,hz']
        exact celKsOk_false h1 (by simp [celKAt,cellOk',g3])
      simp -dsimp [h1,ne_of_lt h1,hz',g3]
      refine ACallK_of (f137_ok _ _ _) ?_
      cases g4:spIn (nth l i).time 1 10000
      · simp -dsimp [h1,ne_of_lt h1,hz']
        exact celKsOk_false h1 (by simp [celKAt,cellOk',g4])
      simp -dsimp [h1,ne_of_lt h1,hz',g1,g2,g3,g4]
      exact Back_of (i + 1) [0,1,7,8,9] [] rfl rfl (by simp; rw [wrap64 (by omega) (by omega)]) ⟨by omega,allB_succ hall (by subst hz; simp [celKAt,cellOk',g1,g2,g3,g4])⟩ (by omega)
    · have w:IntKind.i64.wrap ((i:Int) - 1) = i - 1:=wrap64 (by omega) (by omega)
      have t1:((i:Int) - 1).toNat = i - 1:=by omega
      have h3:i - 1 < l.length:=by omega
      have hn:¬ i = 0:=by omega
      simp -dsimp [h1,ne_of_lt h1,hz,w,t1,h3]
      refine ⟨by omega,?_⟩
      refine ACallK_of (f113_ok _ _ hk) ?_
      cases g1:knows k (nth l i).dot
      · simp -dsimp [h1,ne_of_lt h1,hz,w,t1,h3]
        exact celKsOk_false h1 (by simp [celKAt,cellOk',g1])
      simp -dsimp [h1,ne_of_lt h1,hz,w,t1,h3,g1]
      refine ACallK_of (f157_ok _ (by omega)) ?_
      cases g2:nameOk (nth l i).obj
      · simp -dsimp [h1,ne_of_lt h1,hz,w,t1,h3]
        exact celKsOk_false h1 (by simp [celKAt,cellOk',g2])
      simp -dsimp [h1,ne_of_lt h1,hz,w,t1,h3,g2]
      refine ACallK_of (f137_ok _ _ _) ?_
      cases g3:spIn (nth l i).val 0 999999
      · simp -dsimp [h1,ne_of_lt h1,hz,w,t1,h3]
        exact celKsOk_false h1 (by simp [celKAt,cellOk',g3])
      simp -dsimp [h1,ne_of_lt h1,hz,w,t1,h3,g3]
      refine ACallK_of (f137_ok _ _ _) ?_
      cases g4:spIn (nth l i).time 1 10000
      · simp -dsimp [h1,ne_of_lt h1,hz,w,t1,h3]
        exact celKsOk_false h1 (by simp [celKAt,cellOk',g4])
      simp -dsimp [h1,ne_of_lt h1,hz,w,t1,h3,g1,g2,g3,g4]
      repeat (first | refine ⟨by omega,?_⟩ | refine ⟨⟨by omega,by omega⟩,?_⟩)
      refine ACallK_of (f114_ok _ _) ?_
      simp -dsimp [h1,ne_of_lt h1,hz,w,t1,h3,g1,g2,g3,g4]
      refine ⟨fun h => celKsOk_false h1 (by simp [celKAt,cellOk',hn,show before _ _ = false by rw [before_cmp]; simpa using h]),fun h => Back_of (i + 1) [0,1,7,8,9] [] rfl rfl (by simp; rw [wrap64 (by omega) (by omega)]) ⟨by omega,allB_succ hall (by simp [celKAt,cellOk',g1,g2,g3,g4,show before _ _ = true by rw [before_cmp]; simpa using h])⟩ (by omega)⟩
  · simp -dsimp [Nat.not_lt.2 h1]
    obtain rfl:i = l.length:=by omega
    rw [celKsOk_end hall,Bool.eq_iff_iff]
    simp
    omega
end Am
namespace Am
open Go Go.Proofs
open Cel (cells)
set_option maxRecDepth 100000
@[simp] def h66:Hts:={ merge:=fun _ => false,mergeF:=fun _ => false,dr:=fun id => if id = 5 then [{},{},{ cr:=true },{},{},{},{},{ cr:=true },{},{},{},{},{},{ cr:=true },{},{},{},{},{},{ cr:=true },{},{},{},{},{},{},{},{},{},{},{ cr:=true },{},{},{},{},{},{},{},{},{},{},{},{},{},{},{},{ cr:=true },{},{},{}] else [] }
set_option maxHeartbeats 4000000 in
theorem f66_ok (l:List GCell) (ha:l.length ≤ 1073741824) (he:∀ x,x ∈ l → x.Ok):FnR Tryz.prog 66 [.v (.im l.length (flat l))] (.v (.bool (celsOk l))):=by
  refine FnW.of_AW TryzT_ok 0 (fn:=Tryz.f66) (by kernel_rfl) rfl (by kernel_rfl) rfl rfl rfl ?_; refine AW_of h66 TryzT_ok (by kernel_rfl) ?_
  simp -dsimp
  refine AWh_loop (fun i:Nat => i ≤ l.length ∧ allB (celAt l) i = true) (fun i => mkE [(0,.c (.im l.length (flat l))),(3,.c (.int .i64 i))] []) (fun i => l.length - i) 0 (Wk_to [0,3] [] rfl rfl (by simp)) (by simp [allB]) ?_
  rintro i ⟨hi,hall⟩
  refine AW_of h66 TryzT_ok (by kernel_rfl) ?_
  rcases Nat.lt_or_ge i l.length with h1 | h1
  · have hm:=he _ (nth_mem h1)
    simp only [GCell.Ok] at hm
    rcases Nat.eq_zero_or_pos i with hz | hz
    · have hz':¬ 0 < i:=by omega
      simp -dsimp [h1,ne_of_lt h1,hz']
      refine ⟨by omega,?_⟩
      refine ACallK_of (f129_ok _) ?_
      cases g1:dotOk (nth l i).dot
      · simp -dsimp [h1,ne_of_lt h1,hz']
        exact celsOk_false h1 (by simp [celAt,cellOk',g1])
      simp -dsimp [h1,ne_of_lt h1,hz',g1]
      refine ACallK_of (f128_ok _ (by omega)) ?_
      cases g2:nameOk (nth l i).obj
      · simp -dsimp [h1,ne_of_lt h1,hz']
        exact celsOk_false h1 (by simp [celAt,cellOk',g2])
      simp -dsimp [h1,ne_of_lt h1,hz',g2]
      refine ACallK_of (f86_ok _ _ _) ?_
      cases g3:spIn (nth l i).time 1 10000
      · simp -dsimp [h1,ne_of_lt h1,hz']
        exact celsOk_false h1 (by simp [celAt,cellOk',g3])
      simp -dsimp [h1,ne_of_lt h1,hz',g3]
      refine ACallK_of (f86_ok _ _ _) ?_
      cases g4:spIn (nth l i).val 0 999999
      · simp -dsimp [h1,ne_of_lt h1,hz']
        exact celsOk_false h1 (by simp [celAt,cellOk',g4])
      rcases bne_cases (nth l i).ref.rep with ⟨r1,r2⟩ | ⟨r1,r2⟩ <;> rcases bne_cases (nth l i).ref.seq with ⟨q1,q2⟩ | ⟨q1,q2⟩
      · simp -dsimp [h1,ne_of_lt h1,hz',g1,g2,g3,g4,r1,r2,q1,q2]
        refine ACallK_of (f129_ok _) ?_
        cases g5:dotOk (nth l i).ref
        · simp -dsimp [h1,ne_of_lt h1,hz',g1,g2,g3,g4,r1,r2,q1,q2]
          exact celsOk_false h1 (by simp [celAt,cellOk',g5,r2,q2])
        simp -dsimp [h1,ne_of_lt h1,hz',g1,g2,g3,g4,r1,r2,q1,q2,g5]
        exact Back_of (i + 1) [0,3] [] rfl rfl (by simp; rw [wrap64 (by omega) (by omega)]) ⟨by omega,allB_succ hall (by subst hz; simp [celAt,cellOk',g1,g2,g3,g4,r1,r2,q1,q2,g5])⟩ (by omega)
      · simp -dsimp [h1,ne_of_lt h1,hz',g1,g2,g3,g4,r1,r2,q1,q2]
        refine ACallK_of (f129_ok _) ?_
        cases g5:dotOk (nth l i).ref
        · simp -dsimp [h1,ne_of_lt h1,hz',g1,g2,g3,g4,r1,r2,q1,q2]
          exact celsOk_false h1 (by simp [celAt,cellOk',g5,r2,q2])
        simp -dsimp [h1,ne_of_lt h1,hz',g1,g2,g3,g4,r1,r2,q1,q2,g5]
        exact Back_of (i + 1) [0,3] [] rfl rfl (by simp; rw [wrap64 (by omega) (by omega)]) ⟨by omega,allB_succ hall (by subst hz; simp [celAt,cellOk',g1,g2,g3,g4,r1,r2,q1,q2,g5])⟩ (by omega)
      · simp -dsimp [h1,ne_of_lt h1,hz',g1,g2,g3,g4,r1,r2,q1,q2]
        refine ACallK_of (f129_ok _) ?_
        cases g5:dotOk (nth l i).ref
        · simp -dsimp [h1,ne_of_lt h1,hz',g1,g2,g3,g4,r1,r2,q1,q2]
          exact celsOk_false h1 (by simp [celAt,cellOk',g5,r2,q2])
        simp -dsimp [h1,ne_of_lt h1,hz',g1,g2,g3,g4,r1,r2,q1,q2,g5]
        exact Back_of (i + 1) [0,3] [] rfl rfl (by simp; rw [wrap64 (by omega) (by omega)]) ⟨by omega,allB_succ hall (by subst hz; simp [celAt,cellOk',g1,g2,g3,g4,r1,r2,q1,q2,g5])⟩ (by omega)
      · simp -dsimp [h1,ne_of_lt h1,hz',g1,g2,g3,g4,r1,r2,q1,q2]
        exact Back_of (i + 1) [0,3] [] rfl rfl (by simp; rw [wrap64 (by omega) (by omega)]) ⟨by omega,allB_succ hall (by subst hz; simp [celAt,cellOk',g1,g2,g3,g4,r1,r2,q1,q2])⟩ (by omega)
    · have w:IntKind.i64.wrap ((i:Int) - 1) = i - 1:=wrap64 (by omega) (by omega)
      have t1:((i:Int) - 1).toNat = i - 1:=by omega
      have h3:i - 1 < l.length:=by omega
      have hn:¬ i = 0:=by omega
      simp -dsimp [h1,ne_of_lt h1,hz,w,t1,h3]
      refine ⟨by omega,?_⟩
      refine ACallK_of (f129_ok _) ?_
      cases g1:dotOk (nth l i).dot
      · simp -dsimp [h1,ne_of_lt h1,hz,w,t1,h3]
        exact celsOk_false h1 (by simp [celAt,cellOk',g1])
      simp -dsimp [h1,ne_of_lt h1,hz,w,t1,h3,g1]
      refine ACallK_of (f128_ok _ (by omega)) ?_
      cases g2:nameOk (nth l i).obj
      · simp -dsimp [h1,ne_of_lt h1,hz,w,t1,h3]
        exact celsOk_false h1 (by simp [celAt,cellOk',g2])
      simp -dsimp [h1,ne_of_lt h1,hz,w,t1,h3,g2]
      refine ACallK_of (f86_ok _ _ _) ?_
      cases g3:spIn (nth l i).time 1 10000
      · simp -dsimp [h1,ne_of_lt h1,hz,w,t1,h3]
        exact celsOk_false h1 (by simp [celAt,cellOk',g3])
      simp -dsimp [h1,ne_of_lt h1,hz,w,t1,h3,g3]
      refine ACallK_of (f86_ok _ _ _) ?_
      cases g4:spIn (nth l i).val 0 999999
      · simp -dsimp [h1,ne_of_lt h1,hz,w,t1,h3]
        exact celsOk_false h1 (by simp [celAt,cellOk',g4])
      rcases bne_cases (nth l i).ref.rep with ⟨r1,r2⟩ | ⟨r1,r2⟩ <;> rcases bne_cases (nth l i).ref.seq with ⟨q1,q2⟩ | ⟨q1,q2⟩
      · simp -dsimp [h1,ne_of_lt h1,hz,w,t1,h3,g1,g2,g3,g4,r1,r2,q1,q2]
        refine ACallK_of (f129_ok _) ?_
        cases g5:dotOk (nth l i).ref
        · simp -dsimp [h1,ne_of_lt h1,hz,w,t1,h3,g1,g2,g3,g4,r1,r2,q1,q2]
          exact celsOk_false h1 (by simp [celAt,cellOk',g5,r2,q2])
        simp -dsimp [h1,ne_of_lt h1,hz,w,t1,h3,g1,g2,g3,g4,r1,r2,q1,q2,g5]
        repeat (first | refine ⟨by omega,?_⟩ | refine ⟨⟨by omega,by omega⟩,?_⟩)
        refine ACallK_of (f130_ok _ _) ?_
        simp -dsimp [h1,ne_of_lt h1,hz,w,t1,h3,g1,g2,g3,g4,r1,r2,q1,q2,g5]
        refine ⟨fun h => celsOk_false h1 (by simp [celAt,cellOk',hn,h]),fun h => Back_of (i + 1) [0,3] [] rfl rfl (by simp; rw [wrap64 (by omega) (by omega)]) ⟨by omega,allB_succ hall (by simp [celAt,cellOk',g1,g2,g3,g4,r1,r2,q1,q2,g5,h])⟩ (by omega)⟩
      · simp -dsimp [h1,ne_of_lt h1,hz,w,t1,h3,g1,g2,g3,g4,r1,r2,q1,q2]
        refine ACallK_of (f129_ok _) ?_
        cases g5:dotOk (nth l i).ref
        · simp -dsimp [h1,ne_of_lt h1,hz,w,t1,h3,g1,g2,g3,g4,r1,r2,q1,q2]
          exact celsOk_false h1 (by simp [celAt,cellOk',g5,r2,q2])
        simp -dsimp [h1,ne_of_lt h1,hz,w,t1,h3,g1,g2,g3,g4,r1,r2,q1,q2,g5]
        repeat (first | refine ⟨by omega,?_⟩ | refine ⟨⟨by omega,by omega⟩,?_⟩)
        refine ACallK_of (f130_ok _ _) ?_
        simp -dsimp [h1,ne_of_lt h1,hz,w,t1,h3,g1,g2,g3,g4,r1,r2,q1,q2,g5]
        refine ⟨fun h => celsOk_false h1 (by simp [celAt,cellOk',hn,h]),fun h => Back_of (i + 1) [0,3] [] rfl rfl (by simp; rw [wrap64 (by omega) (by omega)]) ⟨by omega,allB_succ hall (by simp [celAt,cellOk',g1,g2,g3,g4,r1,r2,q1,q2,g5,h])⟩ (by omega)⟩
      · simp -dsimp [h1,ne_of_lt h1,hz,w,t1,h3,g1,g2,g3,g4,r1,r2,q1,q2]
        refine ACallK_of (f129_ok _) ?_
        cases g5:dotOk (nth l i).ref
        · simp -dsimp [h1,ne_of_lt h1,hz,w,t1,h3,g1,g2,g3,g4,r1,r2,q1,q2]
          exact celsOk_false h1 (by simp [celAt,cellOk',g5,r2,q2])
        simp -dsimp [h1,ne_of_lt h1,hz,w,t1,h3,g1,g2,g3,g4,r1,r2,q1,q2,g5]
        repeat (first | refine ⟨by omega,?_⟩ | refine ⟨⟨by omega,by omega⟩,?_⟩)
        refine ACallK_of (f130_ok _ _) ?_
        simp -dsimp [h1,ne_of_lt h1,hz,w,t1,h3,g1,g2,g3,g4,r1,r2,q1,q2,g5]
        refine ⟨fun h => celsOk_false h1 (by simp [celAt,cellOk',hn,h]),fun h => Back_of (i + 1) [0,3] [] rfl rfl (by simp; rw [wrap64 (by omega) (by omega)]) ⟨by omega,allB_succ hall (by simp [celAt,cellOk',g1,g2,g3,g4,r1,r2,q1,q2,g5,h])⟩ (by omega)⟩
      · simp -dsimp [h1,ne_of_lt h1,hz,w,t1,h3,g1,g2,g3,g4,r1,r2,q1,q2]
        repeat (first | refine ⟨by omega,?_⟩ | refine ⟨⟨by omega,by omega⟩,?_⟩)
        refine ACallK_of (f130_ok _ _) ?_
        simp -dsimp [h1,ne_of_lt h1,hz,w,t1,h3,g1,g2,g3,g4,r1,r2,q1,q2]
        refine ⟨fun h => celsOk_false h1 (by simp [celAt,cellOk',hn,h]),fun h => Back_of (i + 1) [0,3] [] rfl rfl (by simp; rw [wrap64 (by omega) (by omega)]) ⟨by omega,allB_succ hall (by simp [celAt,cellOk',g1,g2,g3,g4,r1,r2,q1,q2,h])⟩ (by omega)⟩
  · simp -dsimp [Nat.not_lt.2 h1]
    obtain rfl:i = l.length:=by omega
    rw [celsOk_end hall,Bool.eq_iff_iff]
    simp
    omega
end Am
namespace Am
open Go Go.Proofs
open Cel (cells)
set_option maxRecDepth 100000
def putsM (l:List GCell):Nat → List (Int × Int × Int)
  | 0 => []
  | n + 1 => putM (putsM l n) (nth l n).dot.rep (nth l n).dot.seq n
theorem getM_put:∀ (m:List (Int × Int × Int)) (a b v c d:Int),getM (putM m a b v) c d = if a = c ∧ b = d then some v else getM m c d
  | [],a,b,v,c,d => by simp [putM,getM]
  | x :: m,a,b,v,c,d => by
    simp only [putM]
    by_cases h:x.1 = a ∧ x.2.1 = b
    · rw [if_pos h]
      simp only [getM]
      obtain ⟨h1,h2⟩:=h
      by_cases h':a = c ∧ b = d
      · rw [if_pos h',if_pos h']
      · rw [if_neg h',if_neg h',h1,h2,if_neg h']
    · rw [if_neg h]
      simp only [getM,getM_put m a b v c d]
      by_cases h1:x.1 = c ∧ x.2.1 = d
      · rw [if_pos h1]
        have:¬ (a = c ∧ b = d):=fun h2 => h ⟨h1.1.trans h2.1.symm,h1.2.trans h2.2.symm⟩
        rw [if_neg this,if_pos h1]
      · rw [if_neg h1,if_neg h1]
theorem getM_some {l:List GCell} {a b k:Int}:∀ {n:Nat},getM (putsM l n) a b = some k → ∃ j:Nat,j < n ∧ k = j ∧ (nth l j).dot = ⟨a,b⟩
  | 0,h => by simp [putsM,getM] at h
  | n + 1,h => by
    simp only [putsM,getM_put] at h
    split at h
    · rename_i hx
      cases h
      exact ⟨n,by omega,rfl,by rw [GDot.ext_iff]; exact hx⟩
    · obtain ⟨j,h1,h2,h3⟩:=getM_some h
      exact ⟨j,by omega,h2,h3⟩
theorem getM_none {l:List GCell} {a b:Int}:∀ {n:Nat},getM (putsM l n) a b = none → ∀ j:Nat,j < n → (nth l j).dot ≠ ⟨a,b⟩
  | 0,_,j,hj => by omega
  | n + 1,h,j,hj => by
    simp only [putsM,getM_put] at h
    split at h
    · cases h
    · rename_i hx
      by_cases e:j = n
      · subst e
        intro h'
        rw [GDot.ext_iff] at h'
        exact hx h'
      · exact getM_none h j (by omega)
theorem idx_at {p:GCell → Bool}:∀ {xs:List GCell} {j:Nat},idx p xs = j → p (nth xs j) = true
  | [],j,h => by simp [idx] at h
  | x :: r,j,h => by
    simp only [idx] at h
    split at h
    · rename_i hp
      obtain rfl:j = 0:=by omega
      rw [nth_cons_zero]; exact hp
    · split at h
      · omega
      · obtain ⟨k,rfl⟩:∃ k,j = k + 1:=⟨j - 1,by omega⟩
        rw [nth_cons_succ]
        exact idx_at (by omega)
def dotIs (d:GDot) (c:GCell):Bool:=decide (c.dot = d)
def cellAt (cs:List GCell) (d:GDot):Int:=idx (dotIs d) cs
theorem cellAt_cases (cs:List GCell) (d:GDot):cellAt cs d = -1 ∨ ∃ j:Nat,j < cs.length ∧ cellAt cs d = j:=by
  have:=idx_range (dotIs d) cs
  unfold cellAt
  by_cases h:idx (dotIs d) cs = -1
  · exact .inl h
  · exact .inr ⟨(idx (dotIs d) cs).toNat,by omega,by omega⟩
def refGood (cs:List GCell) (c:GCell):Bool:=decide (0 ≤ cellAt cs c.ref) && decide ((nth cs (cellAt cs c.ref).toNat).obj = c.obj) && decide ((nth cs (cellAt cs c.ref).toNat).time < c.time)
def refAt (cs:List GCell) (i:Nat):Bool:=((nth cs i).ref.rep == 0 && (nth cs i).ref.seq == 0) || refGood cs (nth cs i)
def refGoodM (cs:List GCell) (c:GCell):Bool:=match getM (putsM cs cs.length) c.ref.rep c.ref.seq with
  | none => false
  | some k => decide ((nth cs k.toNat).obj = c.obj) && decide ((nth cs k.toNat).time < c.time)
def refAtM (cs:List GCell) (i:Nat):Bool:=((nth cs i).ref.rep == 0 && (nth cs i).ref.seq == 0) || refGoodM cs (nth cs i)
theorem before_trans {a b c:GDot} (h:before a b = true) (h':before b c = true):before a c = true:=by
  simp [before] at *; omega
theorem before_irr (a:GDot):before a a = false:=by simp [before]
theorem sorted_lt {l:List GCell} {n:Nat} (h:∀ i:Nat,i < n → (i = 0 ∨ before (nth l (i - 1)).dot (nth l i).dot = true)):∀ (j i:Nat),i < j → j < n → before (nth l i).dot (nth l j).dot = true
  | 0,i,hi,_ => by omega
  | j + 1,i,hi,hj => by
    have h1:=(h (j + 1) hj).resolve_left (by omega)
    simp only [Nat.add_sub_cancel] at h1
    by_cases e:i = j
    · subst e; exact h1
    · exact before_trans (sorted_lt h j i (by omega) (by omega)) h1
theorem celKs_sorted {l:List GCell} {k:List Int} (h:celKsOk l k = true):∀ i:Nat,i < l.length → (i = 0 ∨ before (nth l (i - 1)).dot (nth l i).dot = true):=by
  simp only [celKsOk,Bool.and_eq_true,decide_eq_true_eq,allB_iff,celKAt,Bool.or_eq_true] at h
  exact fun i hi => (h.2 i hi).2
theorem getM_cellAt {l:List GCell} (h:∀ i:Nat,i < l.length → (i = 0 ∨ before (nth l (i - 1)).dot (nth l i).dot = true)) (d:GDot) :
    (getM (putsM l l.length) d.rep d.seq = none ∧ cellAt l d = -1) ∨ ∃ j:Nat,j < l.length ∧ getM (putsM l l.length) d.rep d.seq = some (j:Int) ∧ cellAt l d = j:=by
  cases hg:getM (putsM l l.length) d.rep d.seq with
  | none =>
    refine .inl ⟨rfl,idx_none fun j hj => ?_⟩
    have:=getM_none hg j hj
    simp [dotIs,this]
  | some k =>
    obtain ⟨j,h1,rfl,h3⟩:=getM_some hg
    refine .inr ⟨j,h1,rfl,idx_here h1 (fun i hi => ?_) (by simp [dotIs,h3])⟩
    have hb:=sorted_lt h j i hi h1
    cases hd:dotIs d (nth l i)
    · rfl
    · simp [dotIs] at hd
      rw [hd,h3,before_irr] at hb
      cases hb
theorem refGoodM_eq {l:List GCell} (h:∀ i:Nat,i < l.length → (i = 0 ∨ before (nth l (i - 1)).dot (nth l i).dot = true)) (c:GCell):refGoodM l c = refGood l c:=by
  unfold refGoodM refGood
  rcases getM_cellAt h c.ref with ⟨h1,h2⟩ | ⟨j,h1,h2,h3⟩
  · rw [h1,h2]; simp
  · rw [h2,h3]; simp
theorem refAtM_eq {l:List GCell} (h:∀ i:Nat,i < l.length → (i = 0 ∨ before (nth l (i - 1)).dot (nth l i).dot = true)):refAtM l = refAt l:=by
  funext i
  simp only [refAtM,refAt,refGoodM_eq h]
def refsOk (l:List GCell):Bool:=allB (refAtM l) l.length
@[simp] theorem mapT_ok:mapB Tryz.prog TryzT 165 = true:=by kernel_rfl
@[simp] def h101:Hts:={ merge:=fun _ => false,dr:=fun id => if id = 12 then [{},{},{},{},{},{},{},{},{},{},{},{},{},{},{},{},{},{},{},{},{},{}] else [] }
set_option maxHeartbeats 2000000 in
theorem f101_ok (l:List GCell) (ha:l.length ≤ 1073741824):FnR Tryz.prog 101 [.v (.im l.length (flat l))] (.v (.bool (refsOk l))):=by
  refine FnW.of_AW TryzT_ok 0 (fn:=Tryz.f101) (by kernel_rfl) rfl (by kernel_rfl) rfl rfl rfl ?_; refine AW_of h101 TryzT_ok (by kernel_rfl) ?_
  simp -dsimp
  refine AWh_loop (fun i:Nat => i ≤ l.length) (fun i => mkE [(0,.c (.im l.length (flat l))),(3,.mp 640),(11,.c (.im l.length (flat l))),(12,.c (.int .i64 l.length)),(13,.c (.int .i64 i))] [(640,.mp (.m (putsM l i)))]) (fun i => l.length - i) 0 (Wk_to [0,3,11,12,13] [(640,640)] rfl rfl (by simp [putsM])) (by simp) ?_
  rintro i hi
  refine AW_of h101 TryzT_ok (by kernel_rfl) ?_
  rcases Nat.lt_or_ge i l.length with h1 | h1
  · simp -dsimp [h1,ne_of_lt h1]
    repeat (first | refine ⟨by omega,?_⟩ | refine ⟨⟨by omega,by omega⟩,?_⟩)
    exact Back_of (i + 1) [0,3,11,12,13] [(640,640)] rfl rfl (by simp [putsM]; rw [wrap64 (by omega) (by omega)]) (by omega) (by omega)
  obtain rfl:i = l.length:=by omega
  simp -dsimp
  clear hi h1
  refine AWh_loop (fun i:Nat => i ≤ l.length ∧ allB (refAtM l) i = true) (fun i => mkE [(0,.c (.im l.length (flat l))),(3,.mp 640),(23,.c (.im l.length (flat l))),(24,.c (.int .i64 l.length)),(25,.c (.int .i64 i))] [(640,.mp (.m (putsM l l.length)))]) (fun i => l.length - i) 0 (Wk_to [0,3,23,24,25] [(640,640)] rfl rfl (by simp)) (by simp [allB]) ?_
  rintro i ⟨hi,hall⟩
  refine AW_of h101 TryzT_ok (by kernel_rfl) ?_
  rcases Nat.lt_or_ge i l.length with h1 | h1
  · have hbad:∀ {b:Bool},refAtM l i = false → refsOk l = false:=fun h => allB_false h1 h
    rcases bne_cases (nth l i).ref.rep with ⟨r1,r2⟩ | ⟨r1,r2⟩ <;> rcases bne_cases (nth l i).ref.seq with ⟨q1,q2⟩ | ⟨q1,q2⟩
    · cases hg:getM (putsM l l.length) (nth l i).ref.rep (nth l i).ref.seq with
      | none =>
        simp -dsimp [h1,ne_of_lt h1,hg,r1,r2,q1,q2]
        repeat (first | refine ⟨by omega,?_⟩ | refine ⟨⟨by omega,by omega⟩,?_⟩)
        exact allB_false h1 (by simp [refAtM,refGoodM,r2,q2,hg])
      | some k =>
        obtain ⟨j,hj,rfl,hd⟩:=getM_some hg
        by_cases e1:(nth l j).obj = (nth l i).obj
        · rcases Int.lt_or_le (nth l j).time (nth l i).time with e2 | e2
          · have e3:¬ (nth l i).time ≤ (nth l j).time:=by omega
            simp -dsimp [h1,ne_of_lt h1,hg,hj,ne_of_lt hj,e1,e2,e3,r1,r2,q1,q2]
            repeat (first | refine ⟨by omega,?_⟩ | refine ⟨⟨by omega,by omega⟩,?_⟩)
            exact Back_of (i + 1) [0,3,23,24,25] [(640,640)] rfl rfl (by simp; rw [wrap64 (by omega) (by omega)]) ⟨by omega,allB_succ hall (by simp [refAtM,refGoodM,r2,q2,hg,e1,e2])⟩ (by omega)
          · have e3:¬ (nth l j).time < (nth l i).time:=by omega
            simp -dsimp [h1,ne_of_lt h1,hg,hj,ne_of_lt hj,e1,e2,e3,r1,r2,q1,q2]
            repeat (first | refine ⟨by omega,?_⟩ | refine ⟨⟨by omega,by omega⟩,?_⟩)
            exact allB_false h1 (by simp [refAtM,refGoodM,r2,q2,hg,e1,e2,e3])
        · simp -dsimp [h1,ne_of_lt h1,hg,hj,ne_of_lt hj,e1,r1,r2,q1,q2]
          repeat (first | refine ⟨by omega,?_⟩ | refine ⟨⟨by omega,by omega⟩,?_⟩)
          exact allB_false h1 (by simp [refAtM,refGoodM,r2,q2,hg,e1])
    · cases hg:getM (putsM l l.length) (nth l i).ref.rep (nth l i).ref.seq with
      | none =>
        simp -dsimp [h1,ne_of_lt h1,hg,r1,r2,q1,q2]
        repeat (first | refine ⟨by omega,?_⟩ | refine ⟨⟨by omega,by omega⟩,?_⟩)
        exact allB_false h1 (by simp [refAtM,refGoodM,r2,q2,hg])
      | some k =>
        obtain ⟨j,hj,rfl,hd⟩:=getM_some hg
        by_cases e1:(nth l j).obj = (nth l i).obj
        · rcases Int.lt_or_le (nth l j).time (nth l i).time with e2 | e2
          · have e3:¬ (nth l i).time ≤ (nth l j).time:=by omega
            simp -dsimp [h1,ne_of_lt h1,hg,hj,ne_of_lt hj,e1,e2,e3,r1,r2,q1,q2]
            repeat (first | refine ⟨by omega,?_⟩ | refine ⟨⟨by omega,by omega⟩,?_⟩)
            exact Back_of (i + 1) [0,3,23,24,25] [(640,640)] rfl rfl (by simp; rw [wrap64 (by omega) (by omega)]) ⟨by omega,allB_succ hall (by simp [refAtM,refGoodM,r2,q2,hg,e1,e2])⟩ (by omega)
          · have e3:¬ (nth l j).time < (nth l i).time:=by omega
            simp -dsimp [h1,ne_of_lt h1,hg,hj,ne_of_lt hj,e1,e2,e3,r1,r2,q1,q2]
            repeat (first | refine ⟨by omega,?_⟩ | refine ⟨⟨by omega,by omega⟩,?_⟩)
            exact allB_false h1 (by simp [refAtM,refGoodM,r2,q2,hg,e1,e2,e3])
        · simp -dsimp [h1,ne_of_lt h1,hg,hj,ne_of_lt hj,e1,r1,r2,q1,q2]
          repeat (first | refine ⟨by omega,?_⟩ | refine ⟨⟨by omega,by omega⟩,?_⟩)
          exact allB_false h1 (by simp [refAtM,refGoodM,r2,q2,hg,e1])
    · cases hg:getM (putsM l l.length) (nth l i).ref.rep (nth l i).ref.seq with
      | none =>
        simp -dsimp [h1,ne_of_lt h1,hg,r1,r2,q1,q2]
        repeat (first | refine ⟨by omega,?_⟩ | refine ⟨⟨by omega,by omega⟩,?_⟩)
        exact allB_false h1 (by simp [refAtM,refGoodM,r2,q2,hg])
      | some k =>
        obtain ⟨j,hj,rfl,hd⟩:=getM_some hg
        by_cases e1:(nth l j).obj = (nth l i).obj
        · rcases Int.lt_or_le (nth l j).time (nth l i).time with e2 | e2
          · have e3:¬ (nth l i).time ≤ (nth l j).time:=by omega
            simp -dsimp [h1,ne_of_lt h1,hg,hj,ne_of_lt hj,e1,e2,e3,r1,r2,q1,q2]
            repeat (first | refine ⟨by omega,?_⟩ | refine ⟨⟨by omega,by omega⟩,?_⟩)
            exact Back_of (i + 1) [0,3,23,24,25] [(640,640)] rfl rfl (by simp; rw [wrap64 (by omega) (by omega)]) ⟨by omega,allB_succ hall (by simp [refAtM,refGoodM,r2,q2,hg,e1,e2])⟩ (by omega)
          · have e3:¬ (nth l j).time < (nth l i).time:=by omega
            simp -dsimp [h1,ne_of_lt h1,hg,hj,ne_of_lt hj,e1,e2,e3,r1,r2,q1,q2]
            repeat (first | refine ⟨by omega,?_⟩ | refine ⟨⟨by omega,by omega⟩,?_⟩)
            exact allB_false h1 (by simp [refAtM,refGoodM,r2,q2,hg,e1,e2,e3])
        · simp -dsimp [h1,ne_of_lt h1,hg,hj,ne_of_lt hj,e1,r1,r2,q1,q2]
          repeat (first | refine ⟨by omega,?_⟩ | refine ⟨⟨by omega,by omega⟩,?_⟩)
          exact allB_false h1 (by simp [refAtM,refGoodM,r2,q2,hg,e1])
    · simp -dsimp [h1,ne_of_lt h1,r1,r2,q1,q2]
      repeat (first | refine ⟨by omega,?_⟩ | refine ⟨⟨by omega,by omega⟩,?_⟩)
      exact Back_of (i + 1) [0,3,23,24,25] [(640,640)] rfl rfl (by simp; rw [wrap64 (by omega) (by omega)]) ⟨by omega,allB_succ hall (by simp [refAtM,r2,q2])⟩ (by omega)
  · obtain rfl:i = l.length:=by omega
    simp -dsimp
    exact hall
@[simp] def h68:Hts:={ dr:=fun id => if id = 4 then [{},{},{},{},{},{},{},{}] else [] }
theorem f68_ok (s:GState) (d:GDot) (ha:s.cs.length ≤ 1073741824):FnR Tryz.prog 68 [.agg [.im s.know.length (flat s.know),.im s.tallies.length (flat s.tallies),.im s.lives.length (flat s.lives),.im s.cs.length (flat s.cs)],.agg [.int .i64 d.rep,.int .i64 d.seq]] (.v (.int .i64 (cellAt s.cs d))):=by
  refine FnW.of_AW TryzT_ok 0 (fn:=Tryz.f68) (by kernel_rfl) rfl (by kernel_rfl) rfl rfl rfl ?_; refine AW_of h68 TryzT_ok (by kernel_rfl) ?_
  simp -dsimp
  refine AWh_loop (fun i:Nat => i ≤ s.cs.length ∧ ∀ j:Nat,j < i → dotIs d (nth s.cs j) = false) (fun i => mkE [(2,.box 128 0),(3,.box 192 0),(5,.c (.int .i64 i))] [(128,.box [.c (.im s.know.length (flat s.know)),.c (.im s.tallies.length (flat s.tallies)),.c (.im s.lives.length (flat s.lives)),.c (.im s.cs.length (flat s.cs))]),(192,.box [.c (.int .i64 d.rep),.c (.int .i64 d.seq)])]) (fun i => s.cs.length - i) 0 (Wk_to [2,3,5] [(128,128),(192,192)] rfl rfl (by simp)) (by simp) ?_
  rintro i ⟨hi,hall⟩
  refine AW_of h68 TryzT_ok (by kernel_rfl) ?_
  have wi:IntKind.i64.wrap ((i:Int) + 1) = i + 1:=wrap64 (by omega) (by omega)
  rcases Nat.lt_or_ge i s.cs.length with h1 | h1
  · simp -dsimp [h1,ne_of_lt h1]
    refine ⟨by omega,fun e1 e2 => ?_,fun e => ?_⟩
    · rw [cellAt,idx_here h1 hall (by simp [dotIs,GDot.ext_iff,e1,e2])]
    · refine Back_of (i + 1) [2,3,5] [(128,128),(192,192)] rfl rfl (by simp [wi]) ⟨by omega,fun j hj => ?_⟩ (by omega)
      by_cases e3:j = i
      · subst e3; simpa [dotIs,GDot.ext_iff] using e
      · exact hall j (by omega)
  · simp -dsimp [Nat.not_lt.2 h1]
    rw [cellAt,idx_none (fun j hj => hall j (by omega))]
def sLiv (s:GState) (i:Nat):Bool:=knows s.know (nth s.lives i).dot
def sCel (s:GState) (i:Nat):Bool:=knows s.know (nth s.cs i).dot && refAt s.cs i
def stateOkS (s:GState):Bool:=knowOk s.know && talliesOk s.tallies && livsOk s.lives && celsOk s.cs && allB (sLiv s) s.lives.length && allB (sCel s) s.cs.length
def stateOkM (s:GState):Bool:=knowOk s.know && talliesOk s.tallies && livKsOk s.lives s.know && celKsOk s.cs s.know && refsOk s.cs
def stateOk (s:GState):Bool:=knowOk s.know && talliesOk s.tallies && livKsOk s.lives s.know && celKsOk s.cs s.know && allB (refAt s.cs) s.cs.length
theorem stateOkM_eq (s:GState):stateOkM s = stateOk s:=by
  unfold stateOkM stateOk
  cases h:celKsOk s.cs s.know
  · simp
  · rw [refsOk,refAtM_eq (celKs_sorted h)]
theorem stateOkS_eq (s:GState):stateOkS s = stateOk s:=by
  rw [Bool.eq_iff_iff]
  have href:allB (celAt s.cs) s.cs.length = true → allB (refAt s.cs) s.cs.length = true → True:=fun _ _ => trivial
  have hdot:(∀ i:Nat,i < s.cs.length → knows s.know (nth s.cs i).dot = true) → (∀ i:Nat,i < s.cs.length → refAt s.cs i = true) → ∀ i:Nat,i < s.cs.length → ((nth s.cs i).ref.rep = 0 ∧ (nth s.cs i).ref.seq = 0) ∨ dotOk (nth s.cs i).ref = true:=by
    intro hk hr i hi
    have h1:=hr i hi
    simp only [refAt,Bool.or_eq_true,Bool.and_eq_true,beq_iff_eq] at h1
    rcases h1 with h1 | h1
    · exact .inl h1
    · refine .inr ?_
      simp only [refGood,Bool.and_eq_true,decide_eq_true_eq] at h1
      rcases cellAt_cases s.cs (nth s.cs i).ref with h2 | ⟨j,h2,h3⟩
      · omega
      · have h4:=hk j h2
        have hf:dotIs (nth s.cs i).ref (nth s.cs j) = true:=by
          cases hd:dotIs (nth s.cs i).ref (nth s.cs j)
          · have:=idx_at (p:=dotIs (nth s.cs i).ref) h3
            rw [hd] at this; cases this
          · rfl
        simp only [dotIs,decide_eq_true_eq] at hf
        rw [← hf]
        simp only [knows,Bool.and_eq_true] at h4
        exact h4.1.2
  simp only [stateOkS,stateOk,livsOk,livKsOk,celsOk,celKsOk,sLiv,sCel,livAt,livKAt,celAt,celKAt,Bool.and_eq_true,allB_iff,decide_eq_true_eq,Bool.or_eq_true,Bool.not_eq_true',knows,beq_iff_eq] at hdot ⊢
  grind
@[simp] def h17:Hts:={ merge:=fun _ => false,mergeF:=fun _ => false,dr:=fun id => if id = 6 then [{},{},{},{},{},{},{},{},{ cr:=true },{}] else if id = 16 then [{},{},{},{},{},{},{},{},{},{},{},{},{},{},{},{},{},{},{},{},{},{},{},{}] else [] }
set_option maxHeartbeats 4000000 in
theorem f17_ok (s:GState) (hd:s.Ok):FnR Tryz.prog 17 [.agg [.im s.know.length (flat s.know),.im s.tallies.length (flat s.tallies),.im s.lives.length (flat s.lives),.im s.cs.length (flat s.cs)]] (.v (.bool (stateOkS s))):=by
  simp only [GState.Ok] at hd
  obtain ⟨o0,o2,o3,o4,o5,o7,o8⟩:=hd
  refine FnW.of_AW TryzT_ok 0 (fn:=Tryz.f17) (by kernel_rfl) rfl (by kernel_rfl) rfl rfl rfl ?_; refine AW_of h17 TryzT_ok (by kernel_rfl) ?_
  simp -dsimp
  refine ACallK_of (f63_ok _ o0) ?_
  cases g1:knowOk s.know
  · simp -dsimp [g1]
    simp [stateOkS,g1]
  simp -dsimp [g1]
  refine ACallK_of (f64_ok _ o2 o3) ?_
  cases g2:talliesOk s.tallies
  · simp -dsimp [g2]
    simp [stateOkS,g2]
  simp -dsimp [g2]
  refine ACallK_of (f65_ok _ o4 o5) ?_
  cases g3:livsOk s.lives
  · simp -dsimp [g3]
    simp [stateOkS,g3]
  simp -dsimp [g3]
  refine ACallK_of (f66_ok _ o7 o8) ?_
  cases g4:celsOk s.cs
  · simp -dsimp [g4]
    simp [stateOkS,g4]
  simp -dsimp [g4]
  refine AWh_loop (fun i:Nat => i ≤ s.lives.length ∧ allB (sLiv s) i = true) (fun i => mkE [(1,.box 64 0),(3,.c (.int .i64 i))] [(64,.box [.c (.im s.know.length (flat s.know)),.c (.im s.tallies.length (flat s.tallies)),.c (.im s.lives.length (flat s.lives)),.c (.im s.cs.length (flat s.cs))])]) (fun i => s.lives.length - i) 0 (Wk_to [1,3] [(64,64)] rfl rfl (by simp)) (by simp [allB]) ?_
  rintro i ⟨hi,a1⟩
  refine AW_of h17 TryzT_ok (by kernel_rfl) ?_
  rcases Nat.lt_or_ge i s.lives.length with h1 | h1
  · simp -dsimp [h1,ne_of_lt h1]
    repeat (first | refine ⟨by omega,?_⟩ | refine ⟨⟨by omega,by omega⟩,?_⟩)
    refine ACallK_of (f67_ok _ _ o0) ?_
    cases k1:knows s.know (nth s.lives i).dot
    · simp -dsimp [h1]
      simp [stateOkS,allB_false h1 (show sLiv s i = false by simp [sLiv,k1])]
    · simp -dsimp [h1]
      exact Back_of (i + 1) [1,3] [(64,64)] rfl rfl (by simp; rw [wrap64 (by omega) (by omega)]) ⟨by omega,allB_succ a1 (by simp [sLiv,k1])⟩ (by omega)
  simp -dsimp [Nat.not_lt.2 h1]
  obtain rfl:i = s.lives.length:=by omega
  clear hi h1
  refine AWh_loop (fun i:Nat => i ≤ s.cs.length ∧ allB (sCel s) i = true) (fun i => mkE [(1,.box 64 0),(4,.c (.int .i64 i))] [(64,.box [.c (.im s.know.length (flat s.know)),.c (.im s.tallies.length (flat s.tallies)),.c (.im s.lives.length (flat s.lives)),.c (.im s.cs.length (flat s.cs))])]) (fun i => s.cs.length - i) 0 (Wk_to [1,4] [(64,64)] rfl rfl (by simp)) (by simp [allB]) ?_
  rintro i ⟨hi,a2⟩
  refine AW_of h17 TryzT_ok (by kernel_rfl) ?_
  rcases Nat.lt_or_ge i s.cs.length with h1 | h1
  · simp -dsimp [h1,ne_of_lt h1]
    repeat (first | refine ⟨by omega,?_⟩ | refine ⟨⟨by omega,by omega⟩,?_⟩)
    refine ACallK_of (f67_ok _ _ o0) ?_
    cases k1:knows s.know (nth s.cs i).dot
    · simp -dsimp [h1]
      simp [stateOkS,allB_false h1 (show sCel s i = false by simp [sCel,k1])]
    rcases bne_cases (nth s.cs i).ref.rep with ⟨r1,r2⟩ | ⟨r1,r2⟩ <;> rcases bne_cases (nth s.cs i).ref.seq with ⟨q1,q2⟩ | ⟨q1,q2⟩
    · simp -dsimp [h1,ne_of_lt h1,r1,r2,q1,q2]
      refine ACallK_of (f68_ok s (nth s.cs i).ref o7) ?_
      rcases cellAt_cases s.cs (nth s.cs i).ref with hg | ⟨j,hj,hg⟩
      · simp -dsimp [h1,ne_of_lt h1,hg]
        simp [stateOkS,allB_false h1 (show sCel s i = false by simp [sCel,refAt,refGood,r2,q2,hg])]
      · have hj0:¬ (j:Int) < 0:=by omega
        by_cases e1:(nth s.cs j).obj = (nth s.cs i).obj
        · rcases Int.lt_or_le (nth s.cs j).time (nth s.cs i).time with e2 | e2
          · have e3:¬ (nth s.cs i).time ≤ (nth s.cs j).time:=by omega
            simp -dsimp [h1,ne_of_lt h1,hg,hj,ne_of_lt hj,hj0,e1,e2,e3]
            repeat (first | refine ⟨by omega,?_⟩ | refine ⟨⟨by omega,by omega⟩,?_⟩)
            exact Back_of (i + 1) [1,4] [(64,64)] rfl rfl (by simp; rw [wrap64 (by omega) (by omega)]) ⟨by omega,allB_succ a2 (by simp [sCel,k1,refAt,refGood,r2,q2,hg,e1,e2])⟩ (by omega)
          · have e3:¬ (nth s.cs j).time < (nth s.cs i).time:=by omega
            simp -dsimp [h1,ne_of_lt h1,hg,hj,ne_of_lt hj,hj0,e1,e2,e3]
            repeat (first | refine ⟨by omega,?_⟩ | refine ⟨⟨by omega,by omega⟩,?_⟩)
            simp [stateOkS,allB_false h1 (show sCel s i = false by simp [sCel,refAt,refGood,r2,q2,hg,e1,e2,e3])]
        · simp -dsimp [h1,ne_of_lt h1,hg,hj,ne_of_lt hj,hj0,e1]
          repeat (first | refine ⟨by omega,?_⟩ | refine ⟨⟨by omega,by omega⟩,?_⟩)
          simp [stateOkS,allB_false h1 (show sCel s i = false by simp [sCel,refAt,refGood,r2,q2,hg,e1])]
    · simp -dsimp [h1,ne_of_lt h1,r1,r2,q1,q2]
      refine ACallK_of (f68_ok s (nth s.cs i).ref o7) ?_
      rcases cellAt_cases s.cs (nth s.cs i).ref with hg | ⟨j,hj,hg⟩
      · simp -dsimp [h1,ne_of_lt h1,hg]
        simp [stateOkS,allB_false h1 (show sCel s i = false by simp [sCel,refAt,refGood,r2,q2,hg])]
      · have hj0:¬ (j:Int) < 0:=by omega
        by_cases e1:(nth s.cs j).obj = (nth s.cs i).obj
        · rcases Int.lt_or_le (nth s.cs j).time (nth s.cs i).time with e2 | e2
          · have e3:¬ (nth s.cs i).time ≤ (nth s.cs j).time:=by omega
            simp -dsimp [h1,ne_of_lt h1,hg,hj,ne_of_lt hj,hj0,e1,e2,e3]
            repeat (first | refine ⟨by omega,?_⟩ | refine ⟨⟨by omega,by omega⟩,?_⟩)
            exact Back_of (i + 1) [1,4] [(64,64)] rfl rfl (by simp; rw [wrap64 (by omega) (by omega)]) ⟨by omega,allB_succ a2 (by simp [sCel,k1,refAt,refGood,r2,q2,hg,e1,e2])⟩ (by omega)
          · have e3:¬ (nth s.cs j).time < (nth s.cs i).time:=by omega
            simp -dsimp [h1,ne_of_lt h1,hg,hj,ne_of_lt hj,hj0,e1,e2,e3]
            repeat (first | refine ⟨by omega,?_⟩ | refine ⟨⟨by omega,by omega⟩,?_⟩)
            simp [stateOkS,allB_false h1 (show sCel s i = false by simp [sCel,refAt,refGood,r2,q2,hg,e1,e2,e3])]
        · simp -dsimp [h1,ne_of_lt h1,hg,hj,ne_of_lt hj,hj0,e1]
          repeat (first | refine ⟨by omega,?_⟩ | refine ⟨⟨by omega,by omega⟩,?_⟩)
          simp [stateOkS,allB_false h1 (show sCel s i = false by simp [sCel,refAt,refGood,r2,q2,hg,e1])]
    · simp -dsimp [h1,ne_of_lt h1,r1,r2,q1,q2]
      refine ACallK_of (f68_ok s (nth s.cs i).ref o7) ?_
      rcases cellAt_cases s.cs (nth s.cs i).ref with hg | ⟨j,hj,hg⟩
      · simp -dsimp [h1,ne_of_lt h1,hg]
        simp [stateOkS,allB_false h1 (show sCel s i = false by simp [sCel,refAt,refGood,r2,q2,hg])]
      · have hj0:¬ (j:Int) < 0:=by omega
        by_cases e1:(nth s.cs j).obj = (nth s.cs i).obj
        · rcases Int.lt_or_le (nth s.cs j).time (nth s.cs i).time with e2 | e2
          · have e3:¬ (nth s.cs i).time ≤ (nth s.cs j).time:=by omega
            simp -dsimp [h1,ne_of_lt h1,hg,hj,ne_of_lt hj,hj0,e1,e2,e3]
            repeat (first | refine ⟨by omega,?_⟩ | refine ⟨⟨by omega,by omega⟩,?_⟩)
            exact Back_of (i + 1) [1,4] [(64,64)] rfl rfl (by simp; rw [wrap64 (by omega) (by omega)]) ⟨by omega,allB_succ a2 (by simp [sCel,k1,refAt,refGood,r2,q2,hg,e1,e2])⟩ (by omega)
          · have e3:¬ (nth s.cs j).time < (nth s.cs i).time:=by omega
            simp -dsimp [h1,ne_of_lt h1,hg,hj,ne_of_lt hj,hj0,e1,e2,e3]
            repeat (first | refine ⟨by omega,?_⟩ | refine ⟨⟨by omega,by omega⟩,?_⟩)
            simp [stateOkS,allB_false h1 (show sCel s i = false by simp [sCel,refAt,refGood,r2,q2,hg,e1,e2,e3])]
        · simp -dsimp [h1,ne_of_lt h1,hg,hj,ne_of_lt hj,hj0,e1]
          repeat (first | refine ⟨by omega,?_⟩ | refine ⟨⟨by omega,by omega⟩,?_⟩)
          simp [stateOkS,allB_false h1 (show sCel s i = false by simp [sCel,refAt,refGood,r2,q2,hg,e1])]
    · simp -dsimp [h1,ne_of_lt h1,r1,r2,q1,q2]
      repeat (first | refine ⟨by omega,?_⟩ | refine ⟨⟨by omega,by omega⟩,?_⟩)
      exact Back_of (i + 1) [1,4] [(64,64)] rfl rfl (by simp; rw [wrap64 (by omega) (by omega)]) ⟨by omega,allB_succ a2 (by simp [sCel,k1,refAt,r2,q2])⟩ (by omega)
  · simp -dsimp [Nat.not_lt.2 h1]
    obtain rfl:i = s.cs.length:=by omega
    simp [stateOkS,g1,g2,g3,g4,a1,a2]
@[simp] def h34:Hts:={ merge:=fun _ => false,mergeF:=fun _ => false }
set_option maxHeartbeats 2000000 in
theorem f34_ok (s:GState) (hd:s.Ok):FnR Tryz.prog 34 [.agg [.im s.know.length (flat s.know),.im s.tallies.length (flat s.tallies),.im s.lives.length (flat s.lives),.im s.cs.length (flat s.cs)]] (.v (.bool (stateOkM s))):=by
  simp only [GState.Ok] at hd
  obtain ⟨o0,o2,o3,o4,o5,o7,o8⟩:=hd
  refine FnW.of_AW TryzT_ok 0 (fn:=Tryz.f34) (by kernel_rfl) rfl (by kernel_rfl) rfl rfl rfl ?_; refine AW_of h34 TryzT_ok (by kernel_rfl) ?_
  simp -dsimp
  refine ACallK_of (f97_ok _ o0) ?_
  cases g1:knowOk s.know
  · simp -dsimp [g1]
    simp [stateOkM,g1]
  simp -dsimp [g1]
  refine ACallK_of (f98_ok _ o2 o3) ?_
  cases g2:talsOk s.tallies
  · simp -dsimp [g2]
    simp [stateOkM,show talliesOk s.tallies = false from g2]
  simp -dsimp [g2]
  refine ACallK_of (f99_ok _ _ o4 o0 o5) ?_
  cases g3:livKsOk s.lives s.know
  · simp -dsimp [g3]
    simp [stateOkM,g3]
  simp -dsimp [g3]
  refine ACallK_of (f100_ok _ _ o7 o0 o8) ?_
  cases g4:celKsOk s.cs s.know
  · simp -dsimp [g4]
    simp [stateOkM,g4]
  simp -dsimp [g4]
  refine ACallK_of (f101_ok _ o7) ?_
  simp -dsimp
  have g2':talliesOk s.tallies = true:=g2
  simp [stateOkM,g1,g2',g3,g4]
end Am
namespace Am
open Go Go.Proofs
section
variable {α:Type} [Cel α] (lt:α → α → Bool)
def insK (x:α) (l:List α):Nat → List α × Bool
  | 0 => ([],false)
  | i + 1 => if (!(insK x l i).2 && lt x (nth l i)) = true then ((insK x l i).1 ++ [x] ++ [nth l i],true) else ((insK x l i).1 ++ [nth l i],(insK x l i).2)
def insF (x:α) (l:List α):List α:=if (insK lt x l l.length).2 = true then (insK lt x l l.length).1 else (insK lt x l l.length).1 ++ [x]
variable {lt}
theorem insK_len (x:α) (l:List α):∀ i,(insK lt x l i).1.length = i + (if (insK lt x l i).2 = true then 1 else 0)
  | 0 => by simp [insK]
  | i + 1 => by
    have ih:=insK_len x l i
    simp only [insK]
    by_cases h:(insK lt x l i).2 = true
    · simp [h] at ih ⊢; omega
    · have h':(insK lt x l i).2 = false:=by simpa using h
      by_cases h2:lt x (nth l i) = true
      · simp [h',h2] at ih ⊢; omega
      · have h2':lt x (nth l i) = false:=by simpa using h2
        simp [h',h2'] at ih ⊢; omega
theorem take_snoc {l:List α} {i:Nat} (h:i < l.length):l.take (i + 1) = l.take i ++ [nth l i]:=by
  rw [List.take_add_one]
  simp [nth,List.getD,h]
theorem insK_spec (x:α) (l:List α):∀ i,i ≤ l.length →
    ((insK lt x l i).2 = false ∧ (insK lt x l i).1 = l.take i ∧ ∀ k,k < i → lt x (nth l k) = false) ∨
    ((insK lt x l i).2 = true ∧ ∃ j,j < i ∧ (insK lt x l i).1 = l.take j ++ x :: (l.take i).drop j ∧ lt x (nth l j) = true ∧ ∀ k,k < j → lt x (nth l k) = false)
  | 0,_ => by left; simp [insK]
  | i + 1,h => by
    rcases insK_spec x l i (by omega) with ⟨h1,h2,h3⟩ | ⟨h1,j,hj,h2,h3,h4⟩
    · cases hl:lt x (nth l i)
      · left
        simp only [insK,h1,hl]
        refine ⟨by simp,by simp [h2,take_snoc (show i < l.length by omega)],fun k hk => ?_⟩
        by_cases e:k = i
        · subst e; exact hl
        · exact h3 k (by omega)
      · right
        simp only [insK,h1,hl]
        refine ⟨by simp,i,by omega,?_,hl,h3⟩
        have e1:(l.take (i + 1)).drop i = [nth l i]:=by
          rw [take_snoc (show i < l.length by omega),List.drop_append]
          simp [List.length_take,Nat.min_eq_left (show i ≤ l.length by omega)]
        rw [e1]
        simp [h2]
    · right
      simp only [insK,h1]
      refine ⟨by simp,j,by omega,?_,h3,h4⟩
      have e1:(l.take (i + 1)).drop j = (l.take i).drop j ++ [nth l i]:=by
        rw [take_snoc (show i < l.length by omega),List.drop_append]
        have:j - (l.take i).length = 0:=by rw [List.length_take]; omega
        rw [this]; simp
      rw [e1]
      simp [h2]
theorem insF_spec (x:α) (l:List α):∃ j,j ≤ l.length ∧ insF lt x l = l.take j ++ x :: l.drop j ∧ (j < l.length → lt x (nth l j) = true) ∧ ∀ k,k < j → lt x (nth l k) = false:=by
  unfold insF
  rcases insK_spec (lt:=lt) x l l.length (Nat.le_refl _) with ⟨h1,h2,h3⟩ | ⟨h1,j,hj,h2,h3,h4⟩
  · refine ⟨l.length,Nat.le_refl _,?_,fun h => absurd h (by omega),h3⟩
    rw [h1]
    simp [h2]
  · refine ⟨j,by omega,?_,fun _ => h3,h4⟩
    rw [h1,if_pos rfl,h2,List.take_length]
theorem insF_perm (x:α) (l:List α):(insF lt x l).Perm (x :: l):=by
  obtain ⟨j,_,e,_⟩:=insF_spec (lt:=lt) x l
  rw [e]
  refine List.perm_middle.trans ?_
  rw [List.take_append_drop]
theorem insF_len (x:α) (l:List α):(insF lt x l).length = l.length + 1:=by
  have:=(insF_perm (lt:=lt) x l).length_eq
  simpa using this
structure Lt (lt:α → α → Bool):Prop where
  asym:∀ a b,lt a b = true → lt b a = false
  trans:∀ a b c,lt a b = true → lt b c = true → lt a c = true
theorem insF_sorted (hL:Lt lt) {x:α} {l:List α} (hs:l.Pairwise (fun a b => lt a b = true)) (hx:∀ y,y ∈ l → lt x y = false → lt y x = true):(insF lt x l).Pairwise (fun a b => lt a b = true):=by
  obtain ⟨j,hj,e,h1,h2⟩:=insF_spec (lt:=lt) x l
  rw [e,List.pairwise_append]
  refine ⟨hs.sublist (List.take_sublist _ _),?_,?_⟩
  · rw [List.pairwise_cons]
    refine ⟨fun y hy => ?_,hs.sublist (List.drop_sublist _ _)⟩
    have hjl:j < l.length:=by
      by_cases h:j < l.length
      · exact h
      · rw [List.drop_eq_nil_of_le (by omega)] at hy; cases hy
    have h3:=h1 hjl
    obtain ⟨k,hk,rfl⟩:=List.mem_iff_getElem.1 hy
    have hn:nth l j = l[j]:=by simp [nth,List.getD,hjl]
    rw [hn] at h3
    rw [List.getElem_drop]
    by_cases e0:k = 0
    · subst e0; exact h3
    · refine hL.trans _ _ _ h3 ?_
      rw [List.pairwise_iff_getElem] at hs
      exact hs j (j + k) hjl (by simp at hk; omega) (by omega)
  · intro a ha b hb
    have hxa:lt a x = true:=by
      obtain ⟨k,hk,rfl⟩:=List.mem_iff_getElem.1 ha
      have hkl:k < l.length:=by simp at hk; omega
      have hkj:k < j:=by simp at hk; omega
      have h3:=h2 k hkj
      have hn:nth l k = l[k]:=by simp [nth,List.getD,hkl]
      rw [hn] at h3
      rw [List.getElem_take]
      exact hx _ (List.getElem_mem hkl) h3
    rcases List.mem_cons.1 hb with rfl | hb
    · exact hxa
    · have hs':=hs
      rw [← List.take_append_drop j l,List.pairwise_append] at hs'
      exact hs'.2.2 a ha b hb
end
theorem before_Lt:Lt before:=⟨fun a b h => by
  simp only [before,Bool.or_eq_true,Bool.and_eq_true,decide_eq_true_eq] at h
  simp only [before,Bool.or_eq_false_iff,Bool.and_eq_false_iff,decide_eq_false_iff_not]
  omega,fun a b c => before_trans⟩
theorem before_tri {a b:GDot} (h:before a b = false) (h':before b a = false):a = b:=by
  simp only [before,Bool.or_eq_false_iff,Bool.and_eq_false_iff,decide_eq_false_iff_not] at h h'
  cases a; cases b
  simp only [GDot.mk.injEq] at *
  omega
theorem bl_trans:∀ x y z:List UInt8,Op.bytesLess x y = true → Op.bytesLess y z = true → Op.bytesLess x z = true
  | [],[],_,h,_ => by simp [Op.bytesLess] at h
  | [],_ :: _,[],_,h => by simp [Op.bytesLess] at h
  | [],_ :: _,_ :: _,_,_ => by simp [Op.bytesLess]
  | _ :: _,[],_,h,_ => by simp [Op.bytesLess] at h
  | _ :: _,_ :: _,[],_,h => by simp [Op.bytesLess] at h
  | a :: x,b :: y,c :: z,h,h' => by
    have ih:=bl_trans x y z
    simp only [Op.bytesLess] at h h' ⊢
    grind
theorem strLt_trans {a b c:ByteArray} (h:strLt a b = true) (h':strLt b c = true):strLt a c = true:=bl_trans _ _ _ h h'
theorem tallyLt_Lt:Lt tallyLt:=⟨fun a b h => by
  simp only [tallyLt,Bool.or_eq_true,Bool.and_eq_true,decide_eq_true_eq] at h
  simp only [tallyLt,Bool.or_eq_false_iff,Bool.and_eq_false_iff,decide_eq_false_iff_not]
  rcases h with h | ⟨h,h2⟩
  · refine ⟨strLt_asymm h,Or.inl fun e => ?_⟩
    rw [e,strLt_self] at h; cases h
  · rw [h]; exact ⟨strLt_self _,Or.inr (by omega)⟩,fun a b c h h' => by
  simp only [tallyLt,Bool.or_eq_true,Bool.and_eq_true,decide_eq_true_eq] at h h' ⊢
  rcases h with h | ⟨h,h2⟩ <;> rcases h' with h' | ⟨h',h2'⟩
  · exact Or.inl (strLt_trans h h')
  · rw [← h']; exact Or.inl h
  · rw [h]; exact Or.inl h'
  · exact Or.inr ⟨h.trans h',by omega⟩⟩
theorem tallyLt_tri {a b:GTally} (h:tallyLt a b = false) (h':tallyLt b a = false):a.obj = b.obj ∧ a.rep = b.rep:=by
  simp only [tallyLt,Bool.or_eq_false_iff,Bool.and_eq_false_iff,decide_eq_false_iff_not] at h h'
  have e:=strLt_tri h.1 h'.1
  refine ⟨e,?_⟩
  rcases h.2 with h2 | h2
  · exact absurd e h2
  · rcases h'.2 with h3 | h3
    · exact absurd e.symm h3
    · omega
end Am
