/- What is put in its place: the reference's. No condition. -/
import Derived.Test.YtjbbhccphedkfaaGreatT
import Derived.Test.YtjbbhccphedkfaaGreatD
import Derived.Test.YtjbbhccphedkfaaGreatE8
import Derived.Test.YtjbbhccphedkfaaGreatE2
import Derived.Test.YtjbbhccphedkfaaGreatAm31
set_option linter.unusedSimpArgs false
set_option linter.unusedVariables false
set_option linter.unnecessarySimpa false
set_option linter.unusedSectionVars false
namespace Am
open Go Go.Proofs
open Cel (cells)
set_option maxRecDepth 100000
@[simp] def h95:Hts:={ merge:=fun _ => false,mergeF:=fun f => f == 130,dr:=fun id => if id = 6 then [{},{},{},{},{},{},{},{},{},{},{ cr:=true },{}] else [] }
set_option maxHeartbeats 1000000 in
theorem f95_ok (l:List GLive) (x:GLive) (ha:l.length ≤ 1000000000):FnR Tryz.prog 95 [.v (.im l.length (flat l)),.agg [.bool x.map,.str x.obj,.str x.key,.int .i64 x.val,.int .i64 x.dot.rep,.int .i64 x.dot.seq]] (.v (.ow 98 6 (insF liveLt x l).length (flat (insF liveLt x l)))):=by
  refine FnW.of_AW TryzT_ok 0 (fn:=Tryz.f95) (by kernel_rfl) rfl (by kernel_rfl) rfl rfl rfl ?_; refine AW_of h95 TryzT_ok (by kernel_rfl) ?_
  simp -dsimp
  refine AWh_loop (fun i:Nat => i ≤ l.length) (fun i => mkE [(0,.c (.im l.length (flat l))),(3,.box 192 0),(5,.arr 512),(6,.c (.bool (insK liveLt x l i).2)),(7,.c (.int .i64 i))] [(192,.box [.c (.bool x.map),.c (.str x.obj),.c (.str x.key),.c (.int .i64 x.val),.c (.int .i64 x.dot.rep),.c (.int .i64 x.dot.seq)]),(512,.arr 0 98 6 (insK liveLt x l i).1.length (flat (insK liveLt x l i).1))]) (fun i => l.length - i) 0 (Wk_to [0,3,5,6,7] [(192,192),(512,512)] rfl rfl (by simp [insK])) (by simp) ?_
  rintro i hi
  have hkl:=insK_len (lt:=liveLt) x l i
  have hkl':(insK liveLt x l i).1.length ≤ i + 1:=by split at hkl <;> omega
  refine AW_of h95 TryzT_ok (by kernel_rfl) ?_
  rcases Nat.lt_or_ge i l.length with h1 | h1
  · cases g:(insK liveLt x l i).2
    · simp -dsimp [h1,ne_of_lt h1]
      repeat (first|refine ⟨by omega,?_⟩|refine ⟨by simp [capMax];omega,?_⟩|refine ⟨⟨by omega,by omega⟩,?_⟩)
      refine ACallK_of (f130_ok _ _) ?_
      cases g2:liveLt x (nth l i)
      · have g3:=g2
        simp only [liveLt] at g3
        simp -dsimp [g3,h1,ne_of_lt h1]
        repeat (first|refine ⟨by omega,?_⟩|refine ⟨by simp [capMax];omega,?_⟩|refine ⟨⟨by omega,by omega⟩,?_⟩)
        exact Back_of (i + 1) [0,3,5,6,7] [(192,192),(512,2368)] rfl rfl (by simp [insK,g,g2]; rw [wrap64 (by omega) (by omega)]) (by omega) (by omega)
      · have g3:=g2
        simp only [liveLt] at g3
        simp -dsimp [g3,h1,ne_of_lt h1]
        repeat (first|refine ⟨by omega,?_⟩|refine ⟨by simp [capMax];omega,?_⟩|refine ⟨⟨by omega,by omega⟩,?_⟩)
        exact Back_of (i + 1) [0,3,5,6,7] [(192,192),(512,2368)] rfl rfl (by simp [insK,g,g2]; rw [wrap64 (by omega) (by omega)]) (by omega) (by omega)
    · simp -dsimp [h1,ne_of_lt h1]
      repeat (first|refine ⟨by omega,?_⟩|refine ⟨by simp [capMax];omega,?_⟩|refine ⟨⟨by omega,by omega⟩,?_⟩)
      exact Back_of (i + 1) [0,3,5,6,7] [(192,192),(512,2368)] rfl rfl (by simp [insK,g]; rw [wrap64 (by omega) (by omega)]) (by omega) (by omega)
  · obtain rfl:i = l.length:=by omega
    cases g:(insK liveLt x l l.length).2
    · simp -dsimp [g]
      repeat (first|refine ⟨by omega,?_⟩|refine ⟨by simp [capMax];omega,?_⟩|refine ⟨⟨by omega,by omega⟩,?_⟩)
      simp [insF,g]
    · simp -dsimp [g]
      repeat (first|refine ⟨by omega,?_⟩|refine ⟨by simp [capMax];omega,?_⟩|refine ⟨⟨by omega,by omega⟩,?_⟩)
      simp [insF,g]
@[simp] def h155:Hts:={ merge:=fun _ => false,mergeF:=fun f => f == 130,dr:=fun id => if id = 6 then [{},{},{},{},{},{},{},{},{},{},{ cr:=true },{}] else [] }
set_option maxHeartbeats 1000000 in
theorem f155_ok (l:List GCell) (x:GCell) (ha:l.length ≤ 1000000000):FnR Tryz.prog 155 [.v (.im l.length (flat l)),.agg [.str x.obj,.int .i64 x.dot.rep,.int .i64 x.dot.seq,.int .i64 x.time,.int .i64 x.ref.rep,.int .i64 x.ref.seq,.int .i64 x.val,.bool x.gone]] (.v (.ow 100 8 (insF cellLt x l).length (flat (insF cellLt x l)))):=by
  refine FnW.of_AW TryzT_ok 0 (fn:=Tryz.f155) (by kernel_rfl) rfl (by kernel_rfl) rfl rfl rfl ?_; refine AW_of h155 TryzT_ok (by kernel_rfl) ?_
  simp -dsimp
  refine AWh_loop (fun i:Nat => i ≤ l.length) (fun i => mkE [(0,.c (.im l.length (flat l))),(3,.box 192 0),(5,.arr 512),(6,.c (.bool (insK cellLt x l i).2)),(7,.c (.int .i64 i))] [(192,.box [.c (.str x.obj),.c (.int .i64 x.dot.rep),.c (.int .i64 x.dot.seq),.c (.int .i64 x.time),.c (.int .i64 x.ref.rep),.c (.int .i64 x.ref.seq),.c (.int .i64 x.val),.c (.bool x.gone)]),(512,.arr 0 100 8 (insK cellLt x l i).1.length (flat (insK cellLt x l i).1))]) (fun i => l.length - i) 0 (Wk_to [0,3,5,6,7] [(192,192),(512,512)] rfl rfl (by simp [insK])) (by simp) ?_
  rintro i hi
  have hkl:=insK_len (lt:=cellLt) x l i
  have hkl':(insK cellLt x l i).1.length ≤ i + 1:=by split at hkl <;> omega
  refine AW_of h155 TryzT_ok (by kernel_rfl) ?_
  rcases Nat.lt_or_ge i l.length with h1 | h1
  · cases g:(insK cellLt x l i).2
    · simp -dsimp [h1,ne_of_lt h1]
      repeat (first|refine ⟨by omega,?_⟩|refine ⟨by simp [capMax];omega,?_⟩|refine ⟨⟨by omega,by omega⟩,?_⟩)
      refine ACallK_of (f130_ok _ _) ?_
      cases g2:cellLt x (nth l i)
      · have g3:=g2
        simp only [cellLt] at g3
        simp -dsimp [g3,h1,ne_of_lt h1]
        repeat (first|refine ⟨by omega,?_⟩|refine ⟨by simp [capMax];omega,?_⟩|refine ⟨⟨by omega,by omega⟩,?_⟩)
        exact Back_of (i + 1) [0,3,5,6,7] [(192,192),(512,2368)] rfl rfl (by simp [insK,g,g2]; rw [wrap64 (by omega) (by omega)]) (by omega) (by omega)
      · have g3:=g2
        simp only [cellLt] at g3
        simp -dsimp [g3,h1,ne_of_lt h1]
        repeat (first|refine ⟨by omega,?_⟩|refine ⟨by simp [capMax];omega,?_⟩|refine ⟨⟨by omega,by omega⟩,?_⟩)
        exact Back_of (i + 1) [0,3,5,6,7] [(192,192),(512,2368)] rfl rfl (by simp [insK,g,g2]; rw [wrap64 (by omega) (by omega)]) (by omega) (by omega)
    · simp -dsimp [h1,ne_of_lt h1]
      repeat (first|refine ⟨by omega,?_⟩|refine ⟨by simp [capMax];omega,?_⟩|refine ⟨⟨by omega,by omega⟩,?_⟩)
      exact Back_of (i + 1) [0,3,5,6,7] [(192,192),(512,2368)] rfl rfl (by simp [insK,g]; rw [wrap64 (by omega) (by omega)]) (by omega) (by omega)
  · obtain rfl:i = l.length:=by omega
    cases g:(insK cellLt x l l.length).2
    · simp -dsimp [g]
      repeat (first|refine ⟨by omega,?_⟩|refine ⟨by simp [capMax];omega,?_⟩|refine ⟨⟨by omega,by omega⟩,?_⟩)
      simp [insF,g]
    · simp -dsimp [g]
      repeat (first|refine ⟨by omega,?_⟩|refine ⟨by simp [capMax];omega,?_⟩|refine ⟨⟨by omega,by omega⟩,?_⟩)
      simp [insF,g]
end Am
namespace Am
open Go Go.Proofs
open Cel (cells)
set_option maxRecDepth 100000
@[simp] def h138:Hts:={  }
theorem f138_ok (xs:List Int) (h:xs.length ≤ 1073741824):FnR Tryz.prog 138 [.v (.im xs.length (flat xs))] (.v (.ow 3 1 xs.length (flat xs))):=by
  refine FnW.of_AW TryzT_ok 0 (fn:=Tryz.f138) (by kernel_rfl) rfl (by kernel_rfl) rfl rfl rfl ?_; refine AW_of h138 TryzT_ok (by kernel_rfl) ?_
  simp -dsimp
  simp [capMax]
  omega
end Am
namespace Am
open Go Go.Proofs
open Cel (cells)
set_option maxRecDepth 100000
def maxK (a b:List Int):Nat → List Int
  | 0 => []
  | n + 1 => maxK a b n ++ [max (nth a n) (nth b n)]
def maxIn (a b:List Int):Nat → List Int
  | 0 => a
  | n + 1 => (maxIn a b n).set n (max (nth a n) (nth b n))
def knowMax (a b:List Int):List Int:=if (knowOk a && knowOk b) = true then maxK a b a.length else []
theorem maxK_len (a b:List Int):∀ n,(maxK a b n).length = n
  | 0 => rfl
  | n + 1 => by simp [maxK,maxK_len a b n]
theorem maxIn_len (a b:List Int):∀ n,(maxIn a b n).length = a.length
  | 0 => rfl
  | n + 1 => by simp [maxIn,maxIn_len a b n]
theorem maxIn_eq (a b:List Int):∀ n,n ≤ a.length → maxIn a b n = maxK a b n ++ a.drop n
  | 0,_ => by simp [maxIn,maxK]
  | n + 1,h => by
    have hd:a.drop n = nth a n :: a.drop (n + 1):=by rw [List.drop_eq_getElem_cons (show n < a.length by omega),← nth_eq (show n < a.length by omega)]
    rw [maxIn,maxIn_eq a b n (by omega),hd,maxK,List.set_append]
    simp [maxK_len]
theorem maxIn_nth (a b:List Int) {n:Nat} (h:n < a.length):nth (maxIn a b n) n = nth a n:=by
  have hd:a.drop n = nth a n :: a.drop (n + 1):=by rw [List.drop_eq_getElem_cons h,← nth_eq h]
  rw [maxIn_eq a b n (by omega),hd,nth_eq (by simp [maxK_len])]
  rw [List.getElem_append_right (by simp [maxK_len])]
  simp [maxK_len]
@[simp] def h91:Hts:={ merge:=fun _ => false,mergeF:=fun _ => false }
theorem f91_ok (a b:List Int) (ha:a.length ≤ 1073741824) (hb:b.length ≤ 1073741824):FnR Tryz.prog 91 [.v (.im a.length (flat a)),.v (.im b.length (flat b))] (.v (.ow 3 1 (knowMax a b).length (flat (knowMax a b)))):=by
  refine FnW.of_AW TryzT_ok 0 (fn:=Tryz.f91) (by kernel_rfl) rfl (by kernel_rfl) rfl rfl rfl ?_; refine AW_of h91 TryzT_ok (by kernel_rfl) ?_
  simp -dsimp
  refine ACallK_of (f63_ok _ ha) ?_
  simp -dsimp
  cases ka:knowOk a
  · simp -dsimp
    simp [knowMax,ka]
  simp -dsimp
  refine ACallK_of (f63_ok _ hb) ?_
  simp -dsimp
  cases kb:knowOk b
  · simp -dsimp
    simp [knowMax,kb]
  simp -dsimp
  have la:a.length = b.length:=by
    simp [knowOk] at ka kb
    omega
  refine AWh_loop (fun i:Nat => i ≤ a.length) (fun i => mkE [(0,.c (.im a.length (flat a))),(1,.c (.im b.length (flat b))),(5,.arr 512),(6,.c (.int .i64 i))] [(512,.arr 0 3 1 i (flat (maxK a b i)))]) (fun i => a.length - i) 0 (Wk_to [0,1,5,6] [(512,512)] rfl rfl (by simp [maxK])) (by simp) ?_
  rintro i hi
  refine AW_of h91 TryzT_ok (by kernel_rfl) ?_
  rcases Nat.lt_or_ge i a.length with h1 | h1
  · have h2:i < b.length:=by omega
    rcases Int.lt_or_le (nth a i) (nth b i) with h3 | h3
    · have e:max (nth a i) (nth b i) = nth b i:=by omega
      simp -dsimp [h1,h2,h3,ne_of_lt h1,ne_of_lt h2]
      refine ⟨by simp [capMax]; omega,?_⟩
      exact Back_of (i + 1) [0,1,5,6] [(512,2624)] rfl rfl (by simp [maxK,e]; rw [wrap64 (by omega) (by omega)]) (by omega) (by omega)
    · have e:max (nth a i) (nth b i) = nth a i:=by omega
      have h3':¬ nth a i < nth b i:=by omega
      simp -dsimp [h1,h2,h3,h3',ne_of_lt h1,ne_of_lt h2]
      refine ⟨by simp [capMax]; omega,?_⟩
      exact Back_of (i + 1) [0,1,5,6] [(512,2624)] rfl rfl (by simp [maxK,e]; rw [wrap64 (by omega) (by omega)]) (by omega) (by omega)
  · obtain rfl:i = a.length:=by omega
    simp -dsimp
    simp [knowMax,ka,kb,maxK_len]
@[simp] def h145:Hts:={ merge:=fun _ => false,mergeF:=fun _ => false }
theorem f145_ok (a b:List Int) (ha:a.length ≤ 1073741824) (hb:b.length ≤ 1073741824):FnR Tryz.prog 145 [.v (.im a.length (flat a)),.v (.im b.length (flat b))] (.v (.ow 3 1 (knowMax a b).length (flat (knowMax a b)))):=by
  refine FnW.of_AW TryzT_ok 0 (fn:=Tryz.f145) (by kernel_rfl) rfl (by kernel_rfl) rfl rfl rfl ?_; refine AW_of h145 TryzT_ok (by kernel_rfl) ?_
  simp -dsimp
  refine ACallK_of (f97_ok _ ha) ?_
  simp -dsimp
  cases ka:knowOk a
  · simp -dsimp
    simp [knowMax,ka]
  simp -dsimp
  refine ACallK_of (f97_ok _ hb) ?_
  simp -dsimp
  cases kb:knowOk b
  · simp -dsimp
    simp [knowMax,kb]
  simp -dsimp
  have la:a.length = b.length:=by
    simp [knowOk] at ka kb
    omega
  refine ACallK_of (f138_ok _ ha) ?_
  simp -dsimp
  refine AWh_loop (fun i:Nat => i ≤ a.length) (fun i => mkE [(5,.arr 1088),(18,.c (.im b.length (flat b))),(19,.c (.int .i64 b.length)),(20,.c (.int .i64 i))] [(1088,.arr 0 3 1 a.length (flat (maxIn a b i)))]) (fun i => a.length - i) 0 (Wk_to [5,18,19,20] [(1088,1088)] rfl rfl (by simp [maxIn])) (by simp) ?_
  rintro i hi
  have hml:=maxIn_len a b i
  refine AW_of h145 TryzT_ok (by kernel_rfl) ?_
  rcases Nat.lt_or_ge i a.length with h1 | h1
  · have h2:i < b.length:=by omega
    have h3:i < (maxIn a b i).length:=by omega
    have e:=maxIn_nth a b h1
    simp -dsimp [h1,h2,h3,e,ne_of_lt h1,ne_of_lt h2,ne_of_lt h3]
    refine ⟨by omega,?_⟩
    have e2:max (nth a i) (nth b i) = if nth a i < nth b i then nth b i else nth a i:=by split <;> omega
    exact Back_of (i + 1) [5,18,19,20] [(1088,1088)] rfl rfl (by simp [maxIn,e2]; rw [wrap64 (by omega) (by omega)]) (by omega) (by omega)
  · obtain rfl:i = a.length:=by omega
    have h2:¬ a.length < b.length:=by omega
    simp -dsimp [h2]
    have e3:=maxIn_eq a b a.length (Nat.le_refl _)
    simp [knowMax,ka,kb,maxK_len,e3]
@[simp] def h80:Hts:={ dr:=fun id => if id = 1 then [{ mb:=[6,10,14] },{ mb:=[6,10,14] },{ cr:=true,mb:=[6,10,14] },{ cr:=true,mb:=[5,10,14] },{ mb:=[5,6,10,14] },{ mb:=[5,6,10,14] },{ wr:=[384],cr:=true,mb:=[10,14] },{ mn:=[384],cr:=true,mb:=[5,6,9,14] },{ mn:=[384],mb:=[5,6,9,10,14] },{ mn:=[384],mb:=[5,6,9,10,14] },{ wr:=[640],cr:=true,mb:=[14] },{ mn:=[384,640],cr:=true,mb:=[5,6,9,10,13] },{ mn:=[384,640],mb:=[5,6,9,10,13,14] },{ mn:=[384,640],mb:=[5,6,9,10,13,14] },{ wr:=[896],cr:=true },{},{ wr:=[128] }] else [] }
theorem f80_ok (s:GState) (h:s.Ok):FnR Tryz.prog 80 [.agg [.im s.know.length (flat s.know),.im s.tallies.length (flat s.tallies),.im s.lives.length (flat s.lives),.im s.cs.length (flat s.cs)]] (.agg [.ow 3 1 s.know.length (flat s.know),.ow 104 3 s.tallies.length (flat s.tallies),.ow 98 6 s.lives.length (flat s.lives),.ow 100 8 s.cs.length (flat s.cs)]):=by
  simp only [GState.Ok] at h
  obtain ⟨o0,o1,o2,o3,o4,o5,o6⟩:=h
  refine FnW.of_AW TryzT_ok 0 (fn:=Tryz.f80) (by kernel_rfl) rfl (by kernel_rfl) rfl rfl rfl ?_; refine AW_of h80 TryzT_ok (by kernel_rfl) ?_
  simp -dsimp
  refine ACallK_of (f138_ok _ o0) ?_
  simp -dsimp
  simp [capMax]
  omega
@[simp] def h90:Hts:={ dr:=fun id => if id = 1 then [{ cr:=true,mb:=[7,11,15] },{ mb:=[3,7,11,15] },{ mb:=[3,7,11,15] },{ wr:=[192],cr:=true,mb:=[7,11,15] },{ mn:=[192],cr:=true,mb:=[3,6,11,15] },{ mn:=[192],mb:=[3,6,7,11,15] },{ mn:=[192],mb:=[3,6,7,11,15] },{ wr:=[448],cr:=true,mb:=[11,15] },{ mn:=[192,448],cr:=true,mb:=[3,6,7,10,15] },{ mn:=[192,448],mb:=[3,6,7,10,11,15] },{ mn:=[192,448],mb:=[3,6,7,10,11,15] },{ wr:=[704],cr:=true,mb:=[15] },{ mn:=[192,448,704],cr:=true,mb:=[3,6,7,10,11,14] },{ mn:=[192,448,704],mb:=[3,6,7,10,11,14,15] },{ mn:=[192,448,704],mb:=[3,6,7,10,11,14,15] },{ wr:=[960],cr:=true },{},{ wr:=[128] }] else [] }
theorem f90_ok (s:GState) (h:s.Ok):FnR Tryz.prog 90 [.agg [.im s.know.length (flat s.know),.im s.tallies.length (flat s.tallies),.im s.lives.length (flat s.lives),.im s.cs.length (flat s.cs)]] (.agg [.ow 3 1 s.know.length (flat s.know),.ow 104 3 s.tallies.length (flat s.tallies),.ow 98 6 s.lives.length (flat s.lives),.ow 100 8 s.cs.length (flat s.cs)]):=by
  simp only [GState.Ok] at h
  obtain ⟨o0,o1,o2,o3,o4,o5,o6⟩:=h
  refine FnW.of_AW TryzT_ok 0 (fn:=Tryz.f90) (by kernel_rfl) rfl (by kernel_rfl) rfl rfl rfl ?_; refine AW_of h90 TryzT_ok (by kernel_rfl) ?_
  simp -dsimp
  simp [capMax]
  omega
def hasX {α:Type} [DecidableEq α] (l:List α) (x:α):Bool:=decide (x ∈ l)
theorem not_mem_nth {α:Type} [Cel α] {l:List α} {x:α} (h:∀ i:Nat,i < l.length → nth l i ≠ x):¬ x ∈ l:=by
  intro hx
  obtain ⟨i,hi,e⟩:=List.getElem_of_mem hx
  exact h i hi (by rw [nth_eq hi,e])
theorem idx_has {α:Type} [DecidableEq α] {x:α}:∀ l:List α,decide (0 ≤ idx (fun y => decide (y = x)) l) = hasX l x
  | [] => by simp [idx,hasX]
  | y :: r => by
    have ih:=idx_has (x:=x) r
    have hr:=idx_range (fun y => decide (y = x)) r
    rw [Bool.eq_iff_iff] at ih ⊢
    simp only [hasX,decide_eq_true_eq] at ih ⊢
    simp only [idx]
    by_cases e:y = x
    · subst e; simp
    · simp only [e,decide_false]
      rw [List.mem_cons,← ih]
      simp only [Bool.false_eq_true,if_false]
      constructor
      · intro h
        split at h
        · omega
        · right; omega
      · rintro (h | h)
        · exact absurd h.symm e
        · rw [if_neg (by omega)]; omega
@[simp] def h215:Hts:={ dr:=fun id => if id = 4 then [{},{},{},{},{},{}] else [] }
theorem f215_ok (l:List GLive) (x:GLive) (ha:l.length ≤ 1073741824):FnR Tryz.prog 215 [.v (.im l.length (flat l)),.agg [.bool x.map,.str x.obj,.str x.key,.int .i64 x.val,.int .i64 x.dot.rep,.int .i64 x.dot.seq]] (.v (.int .i64 (idx (fun y => decide (y = x)) l))):=by
  refine FnW.of_AW TryzT_ok 0 (fn:=Tryz.f215) (by kernel_rfl) rfl (by kernel_rfl) rfl rfl rfl ?_; refine AW_of h215 TryzT_ok (by kernel_rfl) ?_
  simp -dsimp
  refine AWh_loop (fun i:Nat => i ≤ l.length ∧ ∀ j:Nat,j < i → decide (nth l j = x) = false) (fun i => mkE [(0,.c (.im l.length (flat l))),(3,.box 192 0),(7,.c (.int .i64 l.length)),(8,.c (.int .i64 i))] [(192,.box [.c (.bool x.map),.c (.str x.obj),.c (.str x.key),.c (.int .i64 x.val),.c (.int .i64 x.dot.rep),.c (.int .i64 x.dot.seq)])]) (fun i => l.length - i) 0 (Wk_to [0,3,7,8] [(192,192)] rfl rfl (by simp)) (by simp) ?_
  rintro i ⟨hi,hall⟩
  refine AW_of h215 TryzT_ok (by kernel_rfl) ?_
  rcases Nat.lt_or_ge i l.length with h1 | h1
  · simp -dsimp [h1,ne_of_lt h1]
    try refine ⟨by omega,?_⟩
    refine ⟨fun e0 e1 e2 e3 e4 e5 => ?_,fun he => ?_⟩
    · rw [idx_here h1 hall (by simp [GLive.ext_iff,GDot.ext_iff,e0,e1,e2,e3,e4,e5])]
    · refine Back_of (i + 1) [0,3,7,8] [(192,192)] rfl rfl (by simp; rw [wrap64 (by omega) (by omega)]) ⟨by omega,fun j hj => ?_⟩ (by omega)
      by_cases e3:j = i
      · subst e3
        rw [decide_eq_false_iff_not]
        rintro rfl
        simp at he
      · exact hall j (by omega)
  · simp -dsimp [Nat.not_lt.2 h1]
    rw [idx_none (fun j hj => hall j (by omega))]
@[simp] def h191:Hts:={  }
theorem f191_ok (l:List GLive) (x:GLive) (ha:l.length ≤ 1073741824):FnR Tryz.prog 191 [.v (.im l.length (flat l)),.agg [.bool x.map,.str x.obj,.str x.key,.int .i64 x.val,.int .i64 x.dot.rep,.int .i64 x.dot.seq]] (.v (.bool (hasX l x))):=by
  refine FnW.of_AW TryzT_ok 0 (fn:=Tryz.f191) (by kernel_rfl) rfl (by kernel_rfl) rfl rfl rfl ?_; refine AW_of h191 TryzT_ok (by kernel_rfl) ?_
  simp -dsimp
  refine ACallK_of (f215_ok _ _ ha) ?_
  simp -dsimp
  exact idx_has l
@[simp] def h148:Hts:={  }
theorem f148_ok (s:GState) (x:GLive) (ha:s.lives.length ≤ 1073741824):FnR Tryz.prog 148 [.agg [.im s.know.length (flat s.know),.im s.tallies.length (flat s.tallies),.im s.lives.length (flat s.lives),.im s.cs.length (flat s.cs)],.agg [.bool x.map,.str x.obj,.str x.key,.int .i64 x.val,.int .i64 x.dot.rep,.int .i64 x.dot.seq]] (.v (.bool (hasX s.lives x))):=by
  refine FnW.of_AW TryzT_ok 0 (fn:=Tryz.f148) (by kernel_rfl) rfl (by kernel_rfl) rfl rfl rfl ?_; refine AW_of h148 TryzT_ok (by kernel_rfl) ?_
  simp -dsimp
  refine ACallK_of (f191_ok _ _ ha) ?_
  simp -dsimp
@[simp] def h94:Hts:={ dr:=fun id => if id = 4 then [{},{},{},{},{},{}] else [] }
theorem f94_ok (l:List GLive) (x:GLive) (ha:l.length ≤ 1073741824):FnR Tryz.prog 94 [.v (.im l.length (flat l)),.agg [.bool x.map,.str x.obj,.str x.key,.int .i64 x.val,.int .i64 x.dot.rep,.int .i64 x.dot.seq]] (.v (.bool (hasX l x))):=by
  refine FnW.of_AW TryzT_ok 0 (fn:=Tryz.f94) (by kernel_rfl) rfl (by kernel_rfl) rfl rfl rfl ?_; refine AW_of h94 TryzT_ok (by kernel_rfl) ?_
  simp -dsimp
  refine AWh_loop (fun i:Nat => i ≤ l.length ∧ ∀ j:Nat,j < i → ¬ nth l j = x) (fun i => mkE [(0,.c (.im l.length (flat l))),(3,.box 192 0),(5,.c (.int .i64 i))] [(192,.box [.c (.bool x.map),.c (.str x.obj),.c (.str x.key),.c (.int .i64 x.val),.c (.int .i64 x.dot.rep),.c (.int .i64 x.dot.seq)])]) (fun i => l.length - i) 0 (Wk_to [0,3,5] [(192,192)] rfl rfl (by simp)) (by simp) ?_
  rintro i ⟨hi,hall⟩
  refine AW_of h94 TryzT_ok (by kernel_rfl) ?_
  rcases Nat.lt_or_ge i l.length with h1 | h1
  · simp -dsimp [h1,ne_of_lt h1]
    try refine ⟨by omega,?_⟩
    refine ⟨fun e0 e1 e2 e3 e4 e5 => ?_,fun he => ?_⟩
    · have:x ∈ l:=by
        have h2:nth l i = x:=by simp [GLive.ext_iff,GDot.ext_iff,e0,e1,e2,e3,e4,e5]
        exact h2 ▸ nth_mem h1
      simp [hasX,this]
    · refine Back_of (i + 1) [0,3,5] [(192,192)] rfl rfl (by simp; rw [wrap64 (by omega) (by omega)]) ⟨by omega,fun j hj => ?_⟩ (by omega)
      by_cases e3:j = i
      · subst e3
        rintro rfl
        simp at he
      · exact hall j (by omega)
  · simp -dsimp [Nat.not_lt.2 h1]
    have:=not_mem_nth (l:=l) (x:=x) (fun j hj => hall j (by omega))
    simp [hasX,this]
end Am
namespace Am
open Go Go.Proofs
open Cel (cells)
set_option maxRecDepth 100000
@[simp] def h154:Hts:={ merge:=fun _ => false,dr:=fun id => if id = 5 then [{},{},{},{},{},{},{},{},{},{},{ wr:=[640002] },{ wr:=[640002] },{ wr:=[640002] }] else [] }
set_option maxHeartbeats 2000000 in
theorem f154_ok (u0 u2 u3:Value) (l:List GTally) (o:ByteArray) (r v:Int) (ha:l.length ≤ 3000000000):FnW Tryz.prog 154 [.ptr [.tk u0,.ow 104 3 l.length (flat l),.tk u2,.tk u3],.v (.str o),.v (.int .i64 r),.v (.int .i64 v)] (.tup []) [.ptr [.tk u0,.ow 104 3 (addT l o r v).length (flat (addT l o r v)),.tk u2,.tk u3],.any,.any,.any]:=by
  refine FnW.of_AW TryzT_ok 1 (fn:=Tryz.f154) (by kernel_rfl) rfl (by kernel_rfl) rfl rfl rfl ?_; refine AW_of h154 TryzT_ok (by kernel_rfl) ?_
  simp -dsimp
  refine AWh_loop (fun i:Nat => i ≤ l.length ∧ ∀ j:Nat,j < i → talIs o r (nth l j) = false) (fun i => mkE [(0,.box 640000 0),(1,.c (.str o)),(2,.c (.int .i64 r)),(3,.c (.int .i64 v)),(8,.c (.int .i64 i))] [(640000,.box [.c (.tk u0),.arr 640002,.c (.tk u2),.c (.tk u3)]),(640002,.arr 0 104 3 l.length (flat l))]) (fun i => l.length - i) 0 (Wk_to [0,1,2,3,8] [(640000,640000),(640002,640002)] rfl rfl (by simp)) (by simp) ?_
  rintro i ⟨hi,hall⟩
  refine AW_of h154 TryzT_ok (by kernel_rfl) ?_
  rcases Nat.lt_or_ge i l.length with h1 | h1
  · by_cases e1:(nth l i).obj = o
    · by_cases e2:(nth l i).rep = r
      · have b2:((nth l i).rep == r) = true:=by simp [e2]
        simp -dsimp [h1,ne_of_lt h1,e1,e2]
        repeat (first|refine ⟨by omega,?_⟩|refine ⟨by simp [capMax];omega,?_⟩|refine ⟨⟨by omega,by omega⟩,?_⟩)
        have hr:addT l o r v = l.set i ⟨o,r,(IntKind.i64.wrap ((nth l i).sum + v)).tmod 1000000⟩:=by
          have hix:idx (talIs o r) l = i:=idx_here h1 hall (by simp [talIs,e1,e2])
          simp [addT,hix]
        rw [hr]
        exact ⟨by simp,rfl⟩
      · have b2:((nth l i).rep == r) = false:=by simp [e2]
        simp -dsimp [h1,ne_of_lt h1,e1,e2]
        repeat (first|refine ⟨by omega,?_⟩|refine ⟨by simp [capMax];omega,?_⟩|refine ⟨⟨by omega,by omega⟩,?_⟩)
        exact Back_of (i + 1) [0,1,2,3,8] [(640000,640000),(640002,640002)] rfl rfl (by simp; rw [wrap64 (by omega) (by omega)]) ⟨by omega,fun j hj => by
          by_cases e3:j = i
          · subst e3; simp [talIs,e2]
          · exact hall j (by omega)⟩ (by omega)
    · simp -dsimp [h1,ne_of_lt h1,e1]
      repeat (first|refine ⟨by omega,?_⟩|refine ⟨by simp [capMax];omega,?_⟩|refine ⟨⟨by omega,by omega⟩,?_⟩)
      exact Back_of (i + 1) [0,1,2,3,8] [(640000,640000),(640002,640002)] rfl rfl (by simp; rw [wrap64 (by omega) (by omega)]) ⟨by omega,fun j hj => by
        by_cases e3:j = i
        · subst e3; simp [talIs,e1]
        · exact hall j (by omega)⟩ (by omega)
  · obtain rfl:i = l.length:=by omega
    have hno:idx (talIs o r) l = -1:=idx_none hall
    clear hi h1
    simp -dsimp
    refine AWh_loop (fun i:Nat => i ≤ l.length) (fun i => mkE [(0,.box 640000 0),(1,.c (.str o)),(2,.c (.int .i64 r)),(3,.c (.int .i64 v)),(10,.arr 3328),(11,.c (.bool (insK tallyLt ⟨o,r,v⟩ l i).2)),(12,.c (.int .i64 i))] [(640000,.box [.c (.tk u0),.arr 640002,.c (.tk u2),.c (.tk u3)]),(640002,.arr 0 104 3 l.length (flat l)),(3328,.arr 0 104 3 (insK tallyLt ⟨o,r,v⟩ l i).1.length (flat (insK tallyLt ⟨o,r,v⟩ l i).1))]) (fun i => l.length - i) 0 (Wk_to [0,1,2,3,10,11,12] [(640000,640000),(640002,640002),(3328,3328)] rfl rfl (by simp [insK])) (by simp) ?_
    rintro i hi
    have hkl:=insK_len (lt:=tallyLt) ⟨o,r,v⟩ l i
    have hkl':(insK tallyLt ⟨o,r,v⟩ l i).1.length ≤ i + 1:=by split at hkl <;> omega
    refine AW_of h154 TryzT_ok (by kernel_rfl) ?_
    rcases Nat.lt_or_ge i l.length with h1 | h1
    · cases g:(insK tallyLt ⟨o,r,v⟩ l i).2
      · by_cases e1:(nth l i).obj = o
        · subst e1
          rcases Int.lt_or_le r (nth l i).rep with e2 | e2
          · have g3:tallyLt ⟨(nth l i).obj,r,v⟩ (nth l i) = true:=by simp [tallyLt,e2]
            simp -dsimp [h1,ne_of_lt h1,e2]
            repeat (first|refine ⟨by omega,?_⟩|refine ⟨by simp [capMax];omega,?_⟩|refine ⟨⟨by omega,by omega⟩,?_⟩)
            exact Back_of (i + 1) [0,1,2,3,10,11,12] [(640000,640000),(640002,640002),(3328,6336)] rfl rfl (by simp [insK,g,g3]; rw [wrap64 (by omega) (by omega)]) (by omega) (by omega)
          · have g3:tallyLt ⟨(nth l i).obj,r,v⟩ (nth l i) = false:=by simp [tallyLt]; exact ⟨strLt_self _,e2⟩
            have e2':¬ r < (nth l i).rep:=by omega
            simp -dsimp [h1,ne_of_lt h1,e2,e2']
            repeat (first|refine ⟨by omega,?_⟩|refine ⟨by simp [capMax];omega,?_⟩|refine ⟨⟨by omega,by omega⟩,?_⟩)
            exact Back_of (i + 1) [0,1,2,3,10,11,12] [(640000,640000),(640002,640002),(3328,6336)] rfl rfl (by simp [insK,g,g3]; rw [wrap64 (by omega) (by omega)]) (by omega) (by omega)
        · cases g4:Op.bytesLess (nth l i).obj.toList o.toList
          · have g5:strLt o (nth l i).obj = true:=by
              cases g6:strLt o (nth l i).obj
              · exact absurd (strLt_tri g4 g6) e1
              · rfl
            have g3:tallyLt ⟨o,r,v⟩ (nth l i) = true:=by simp [tallyLt,g5]
            simp -dsimp [h1,ne_of_lt h1,e1,g4]
            repeat (first|refine ⟨by omega,?_⟩|refine ⟨by simp [capMax];omega,?_⟩|refine ⟨⟨by omega,by omega⟩,?_⟩)
            exact Back_of (i + 1) [0,1,2,3,10,11,12] [(640000,640000),(640002,640002),(3328,6336)] rfl rfl (by simp [insK,g,g3]; rw [wrap64 (by omega) (by omega)]) (by omega) (by omega)
          · have g5:strLt o (nth l i).obj = false:=strLt_asymm g4
            have g3:tallyLt ⟨o,r,v⟩ (nth l i) = false:=by simp [tallyLt,g5]; exact fun h => absurd h.symm e1
            simp -dsimp [h1,ne_of_lt h1,e1,g4]
            repeat (first|refine ⟨by omega,?_⟩|refine ⟨by simp [capMax];omega,?_⟩|refine ⟨⟨by omega,by omega⟩,?_⟩)
            exact Back_of (i + 1) [0,1,2,3,10,11,12] [(640000,640000),(640002,640002),(3328,6336)] rfl rfl (by simp [insK,g,g3]; rw [wrap64 (by omega) (by omega)]) (by omega) (by omega)
      · simp -dsimp [h1,ne_of_lt h1]
        repeat (first|refine ⟨by omega,?_⟩|refine ⟨by simp [capMax];omega,?_⟩|refine ⟨⟨by omega,by omega⟩,?_⟩)
        exact Back_of (i + 1) [0,1,2,3,10,11,12] [(640000,640000),(640002,640002),(3328,6336)] rfl rfl (by simp [insK,g]; rw [wrap64 (by omega) (by omega)]) (by omega) (by omega)
    · obtain rfl:i = l.length:=by omega
      cases g:(insK tallyLt ⟨o,r,v⟩ l l.length).2
      · have hr:addT l o r v = insF tallyLt ⟨o,r,v⟩ l:=by simp [addT,hno]
        simp -dsimp [g]
        repeat (first|refine ⟨by omega,?_⟩|refine ⟨by simp [capMax];omega,?_⟩|refine ⟨⟨by omega,by omega⟩,?_⟩)
        simp [hr,insF,g]
      · have hr:addT l o r v = insF tallyLt ⟨o,r,v⟩ l:=by simp [addT,hno]
        simp -dsimp [g]
        repeat (first|refine ⟨by omega,?_⟩|refine ⟨by simp [capMax];omega,?_⟩|refine ⟨⟨by omega,by omega⟩,?_⟩)
        simp [hr,insF,g]
def addN (p:GTally → Bool) (base l:List GTally):Nat → List GTally
  | 0 => base
  | n + 1 => if p (nth l n) = true then addT (addN p base l n) (nth l n).obj (nth l n).rep (nth l n).sum else addN p base l n
theorem addT_len (l:List GTally) (o:ByteArray) (r v:Int):(addT l o r v).length ≤ l.length + 1:=by
  unfold addT
  split
  · simp
  · rw [insF_len]; omega
theorem addN_len (p:GTally → Bool) (base l:List GTally):∀ n,(addN p base l n).length ≤ base.length + n
  | 0 => by simp [addN]
  | n + 1 => by
    have:=addN_len p base l n
    have:=addT_len (addN p base l n) (nth l n).obj (nth l n).rep (nth l n).sum
    simp only [addN]; split <;> omega
def noMore (ka kb:List Int) (t:GTally):Bool:=decide (nth kb t.rep.toNat ≤ nth ka t.rep.toNat)
def more (ka kb:List Int) (t:GTally):Bool:=decide (nth ka t.rep.toNat < nth kb t.rep.toNat)
def repsIn (l:List GTally):Prop:=∀ i:Nat,i < l.length → 0 ≤ (nth l i).rep ∧ (nth l i).rep < 3
def talTwo (ka kb:List Int) (x y:List GTally):List GTally:=addN (more ka kb) (addN (noMore ka kb) [] x x.length) y y.length
@[simp] def h92:Hts:={ merge:=fun _ => false,lend:=fun f => if f = 154 then [.box [0,2,3]] else [],dr:=fun id => if id = 6 then [{},{},{},{},{},{},{},{},{},{},{},{},{}] else if id = 12 then [{},{},{},{},{},{},{},{},{},{},{},{},{}] else [] }
set_option maxHeartbeats 2000000 in
theorem f92_ok (a b:GState) (ha:a.Ok) (hb:b.Ok) (hk1:a.know.length = 3) (hk2:b.know.length = 3) (hr1:repsIn a.tallies) (hr2:repsIn b.tallies):FnR Tryz.prog 92 [.agg [.im a.know.length (flat a.know),.im a.tallies.length (flat a.tallies),.im a.lives.length (flat a.lives),.im a.cs.length (flat a.cs)],.agg [.im b.know.length (flat b.know),.im b.tallies.length (flat b.tallies),.im b.lives.length (flat b.lives),.im b.cs.length (flat b.cs)]] (.v (.ow 104 3 (talTwo a.know b.know a.tallies b.tallies).length (flat (talTwo a.know b.know a.tallies b.tallies)))):=by
  refine FnW.of_AW TryzT_ok 0 (fn:=Tryz.f92) (by kernel_rfl) rfl (by kernel_rfl) rfl rfl rfl ?_; refine AW_of h92 TryzT_ok (by kernel_rfl) ?_
  simp -dsimp
  have hb1:a.tallies.length ≤ 1073741824:=by simp only [GState.Ok] at ha; omega
  have hb2:b.tallies.length ≤ 1073741824:=by simp only [GState.Ok] at hb; omega
  refine AWh_loop (fun i:Nat => i ≤ a.tallies.length) (fun i => mkE [(2,.box 128 0),(3,.box 192 0),(5,.box 320 0),(6,.c (.int .i64 i))] [(321,.arr 0 104 3 (addN (noMore a.know b.know) [] a.tallies i).length (flat (addN (noMore a.know b.know) [] a.tallies i))),(128,.box [.c (.im a.know.length (flat a.know)),.c (.im a.tallies.length (flat a.tallies)),.c (.im a.lives.length (flat a.lives)),.c (.im a.cs.length (flat a.cs))]),(192,.box [.c (.im b.know.length (flat b.know)),.c (.im b.tallies.length (flat b.tallies)),.c (.im b.lives.length (flat b.lives)),.c (.im b.cs.length (flat b.cs))]),(320,.box [.nil,.arr 321,.nil,.nil])]) (fun i => a.tallies.length - i) 0 (Wk_toA [2,3,5,6] [(128,128),(192,192),(320,320)] [.cell 320 1 321 104 3] rfl rfl (by simp [addN])) (by simp) ?_
  rintro i hi
  have hal:=addN_len (noMore a.know b.know) [] a.tallies i
  simp only [List.length_nil] at hal
  refine AW_of h92 TryzT_ok (by kernel_rfl) ?_
  rcases Nat.lt_or_ge i a.tallies.length with h1 | h1
  · have hr:=hr1 i h1
    have q1:(nth a.tallies i).rep.toNat < a.know.length:=by omega
    have q2:(nth a.tallies i).rep.toNat < b.know.length:=by omega
    by_cases g:nth b.know (nth a.tallies i).rep.toNat ≤ nth a.know (nth a.tallies i).rep.toNat
    · have hs:addN (noMore a.know b.know) [] a.tallies (i + 1) = addT (addN (noMore a.know b.know) [] a.tallies i) (nth a.tallies i).obj (nth a.tallies i).rep (nth a.tallies i).sum:=by simp [addN,noMore,g]
      simp -dsimp [h1,ne_of_lt h1,q1,q2,g,ne_of_lt q1,ne_of_lt q2]
      repeat (first|refine ⟨by omega,?_⟩|refine ⟨by simp [capMax];omega,?_⟩|refine ⟨⟨by omega,by omega⟩,?_⟩)
      refine ACallW_go ?_
      refine ACallC_go (fun us => f154_ok _ _ _ _ _ _ _ (by omega)) ?_
      simp -dsimp
      exact Back_of (i + 1) [2,3,5,6] [(321,2729),(128,128),(192,192),(320,320)] rfl rfl (by simp [hs]; rw [wrap64 (by omega) (by omega)]) (by omega) (by omega)
    · have hs:addN (noMore a.know b.know) [] a.tallies (i + 1) = (addN (noMore a.know b.know) [] a.tallies i):=by simp [addN,noMore,g]
      simp -dsimp [h1,ne_of_lt h1,q1,q2,g,ne_of_lt q1,ne_of_lt q2]
      repeat (first|refine ⟨by omega,?_⟩|refine ⟨by simp [capMax];omega,?_⟩|refine ⟨⟨by omega,by omega⟩,?_⟩)
      exact Back_of (i + 1) [2,3,5,6] [(321,321),(128,128),(192,192),(320,320)] rfl rfl (by simp [hs]; rw [wrap64 (by omega) (by omega)]) (by omega) (by omega)
  · obtain rfl:i = a.tallies.length:=by omega
    clear hi h1
    simp -dsimp
    refine AWh_loop (fun i:Nat => i ≤ b.tallies.length) (fun i => mkE [(2,.box 128 0),(3,.box 192 0),(5,.box 320 0),(8,.c (.int .i64 i))] [(321,.arr 0 104 3 (addN (more a.know b.know) (addN (noMore a.know b.know) [] a.tallies a.tallies.length) b.tallies i).length (flat (addN (more a.know b.know) (addN (noMore a.know b.know) [] a.tallies a.tallies.length) b.tallies i))),(128,.box [.c (.im a.know.length (flat a.know)),.c (.im a.tallies.length (flat a.tallies)),.c (.im a.lives.length (flat a.lives)),.c (.im a.cs.length (flat a.cs))]),(192,.box [.c (.im b.know.length (flat b.know)),.c (.im b.tallies.length (flat b.tallies)),.c (.im b.lives.length (flat b.lives)),.c (.im b.cs.length (flat b.cs))]),(320,.box [.nil,.arr 321,.nil,.nil])]) (fun i => b.tallies.length - i) 0 (Wk_to [2,3,5,8] [(321,321),(128,128),(192,192),(320,320)] rfl rfl (by simp [addN])) (by simp) ?_
    rintro i hi
    have hal2:=addN_len (more a.know b.know) (addN (noMore a.know b.know) [] a.tallies a.tallies.length) b.tallies i
    refine AW_of h92 TryzT_ok (by kernel_rfl) ?_
    rcases Nat.lt_or_ge i b.tallies.length with h1 | h1
    · have hr:=hr2 i h1
      have q1:(nth b.tallies i).rep.toNat < a.know.length:=by omega
      have q2:(nth b.tallies i).rep.toNat < b.know.length:=by omega
      by_cases g:nth a.know (nth b.tallies i).rep.toNat < nth b.know (nth b.tallies i).rep.toNat
      · have hs:addN (more a.know b.know) (addN (noMore a.know b.know) [] a.tallies a.tallies.length) b.tallies (i + 1) = addT (addN (more a.know b.know) (addN (noMore a.know b.know) [] a.tallies a.tallies.length) b.tallies i) (nth b.tallies i).obj (nth b.tallies i).rep (nth b.tallies i).sum:=by simp [addN,more,g]
        simp -dsimp [h1,ne_of_lt h1,q1,q2,g,ne_of_lt q1,ne_of_lt q2]
        repeat (first|refine ⟨by omega,?_⟩|refine ⟨by simp [capMax];omega,?_⟩|refine ⟨⟨by omega,by omega⟩,?_⟩)
        refine ACallW_go ?_
        refine ACallC_go (fun us => f154_ok _ _ _ _ _ _ _ (by omega)) ?_
        simp -dsimp
        exact Back_of (i + 1) [2,3,5,8] [(321,4777),(128,128),(192,192),(320,320)] rfl rfl (by simp [hs]; rw [wrap64 (by omega) (by omega)]) (by omega) (by omega)
      · have hs:addN (more a.know b.know) (addN (noMore a.know b.know) [] a.tallies a.tallies.length) b.tallies (i + 1) = (addN (more a.know b.know) (addN (noMore a.know b.know) [] a.tallies a.tallies.length) b.tallies i):=by simp [addN,more,g]
        simp -dsimp [h1,ne_of_lt h1,q1,q2,g,ne_of_lt q1,ne_of_lt q2]
        repeat (first|refine ⟨by omega,?_⟩|refine ⟨by simp [capMax];omega,?_⟩|refine ⟨⟨by omega,by omega⟩,?_⟩)
        exact Back_of (i + 1) [2,3,5,8] [(321,321),(128,128),(192,192),(320,320)] rfl rfl (by simp [hs]; rw [wrap64 (by omega) (by omega)]) (by omega) (by omega)
    · obtain rfl:i = b.tallies.length:=by omega
      simp -dsimp
      exact ⟨rfl,rfl⟩
end Am
namespace Am
open Go Go.Proofs
open Cel (cells)
set_option maxRecDepth 100000
@[simp] def h93:Hts:={ merge:=fun _ => false,dr:=fun id => if id = 9 then [{},{},{},{},{},{},{},{},{},{},{}] else [] }
set_option maxHeartbeats 2000000 in
theorem f93_ok (a b:List GCell) (ha:a.length ≤ 400000000) (hb:b.length ≤ 400000000) (sa:SortC a) (sb:SortC b):FnR Tryz.prog 93 [.v (.im a.length (flat a)),.v (.im b.length (flat b))] (.v (.ow 100 8 (cellsU a b).length (flat (cellsU a b)))):=by
  refine FnW.of_AW TryzT_ok 0 (fn:=Tryz.f93) (by kernel_rfl) rfl (by kernel_rfl) rfl rfl rfl ?_; refine AW_of h93 TryzT_ok (by kernel_rfl) ?_
  simp -dsimp
  refine ⟨by simp [capMax]; omega,?_⟩
  refine AWh_loop (fun i:Nat => i ≤ b.length) (fun i => mkE [(1,.c (.im b.length (flat b))),(5,.arr 704),(6,.c (.int .i64 i))] [(704,.arr 0 100 8 (cellsI a b i).length (flat (cellsI a b i)))]) (fun i => b.length - i) 0 (Wk_to [1,5,6] [(704,704)] rfl rfl (by simp [cellsI])) (by simp) ?_
  rintro i hi
  have hkl:=cellsI_len a b i
  have hso:=cellsI_sorted sa sb i hi
  refine AW_of h93 TryzT_ok (by kernel_rfl) ?_
  rcases Nat.lt_or_ge i b.length with h1 | h1
  · simp -dsimp [h1,ne_of_lt h1]
    refine AWh_loop (fun q:Nat × Int => q.1 ≤ (cellsI a b i).length ∧ -1 ≤ q.2 ∧ q.2 < q.1 ∧ ∀ j:Nat,j < q.1 → ((nth (cellsI a b i) j).dot = (nth b i).dot ↔ (j:Int) = q.2)) (fun q => mkE [(1,.c (.im b.length (flat b))),(5,.arr 704),(6,.c (.int .i64 i)),(7,.c (.int .i64 q.2)),(8,.c (.int .i64 q.1))] [(704,.arr 0 100 8 (cellsI a b i).length (flat (cellsI a b i)))]) (fun q => (cellsI a b i).length - q.1) (0,-1) (Wk_to [1,5,6,7,8] [(704,704)] rfl rfl (by simp)) (by simp) ?_
    rintro ⟨j,p⟩ ⟨hj,hp0,hp1,hall⟩
    simp only at hj hp0 hp1 hall
    refine AW_of h93 TryzT_ok (by kernel_rfl) ?_
    rcases Nat.lt_or_ge j (cellsI a b i).length with g1 | g1
    · by_cases e:(nth (cellsI a b i) j).dot = (nth b i).dot
      · have e1:(nth (cellsI a b i) j).dot.rep = (nth b i).dot.rep:=by rw [e]
        have e2:(nth (cellsI a b i) j).dot.seq = (nth b i).dot.seq:=by rw [e]
        simp -dsimp [h1,g1,ne_of_lt h1,ne_of_lt g1,e1,e2]
        repeat (first|refine ⟨by omega,?_⟩|refine ⟨by simp [capMax];omega,?_⟩|refine ⟨⟨by omega,by omega⟩,?_⟩)
        refine Back_of (j + 1,(j:Int)) [1,5,6,7,8] [(704,704)] rfl rfl (by simp; rw [wrap64 (by omega) (by omega)]) ⟨by simp only; omega,by simp only; omega,by simp only; omega,fun k hk => ?_⟩ (by simp only; omega)
        simp only at hk ⊢
        constructor
        · intro h
          by_cases e3:k = j
          · omega
          · have h3:=pw_nth hso (show k < j by omega) g1
            simp only [cellLt] at h3
            rw [h,e,before_irr] at h3
            cases h3
        · intro h
          obtain rfl:k = j:=by omega
          exact e
      · have e0:((nth (cellsI a b i) j).dot.rep == (nth b i).dot.rep && (nth (cellsI a b i) j).dot.seq == (nth b i).dot.seq) = false:=by
          rw [Bool.eq_false_iff]; intro h; exact e (by simpa [GDot.ext_iff] using h)
        simp -dsimp [h1,g1,ne_of_lt h1,ne_of_lt g1]
        refine ⟨by omega,by omega,fun e1 e2 => absurd (GDot.ext e1 e2) e,fun _ => ?_⟩
        refine Back_of (j + 1,p) [1,5,6,7,8] [(704,704)] rfl rfl (by simp; rw [wrap64 (by omega) (by omega)]) ⟨by simp only; omega,by simp only; omega,by simp only; omega,fun k hk => ?_⟩ (by simp only; omega)
        simp only at hk ⊢
        by_cases e3:k = j
        · subst e3
          exact ⟨fun h => absurd h e,fun h => by omega⟩
        · exact hall k (by omega)
    · obtain rfl:j = (cellsI a b i).length:=by omega
      clear hj g1
      rcases Int.lt_or_le p 0 with g2 | g2
      · have hno:hasDot a (nth b i).dot = false:=by
          rw [← cellsI_has sb h1]
          exact hasDot_no fun k hk h => by have:=(hall k hk).1 h; omega
        have hs:cellsI a b (i + 1) = insF cellLt (nth b i) (cellsI a b i):=by simp [cellsI,hno]
        simp -dsimp [h1,ne_of_lt h1,g2]
        repeat (first|refine ⟨by omega,?_⟩|refine ⟨by simp [capMax];omega,?_⟩|refine ⟨⟨by omega,by omega⟩,?_⟩)
        refine ACallK_of (f155_ok _ _ (by omega)) ?_
        simp -dsimp
        exact Back_of (i + 1) [1,5,6] [(704,2752)] rfl rfl (by simp [hs]; rw [wrap64 (by omega) (by omega)]) (by omega) (by omega)
      · obtain ⟨m,rfl⟩:∃ m:Nat,p = m:=⟨p.toNat,by omega⟩
        have hm:m < (cellsI a b i).length:=by omega
        have he:(nth (cellsI a b i) m).dot = (nth b i).dot:=(hall m hm).2 rfl
        have hyes:hasDot a (nth b i).dot = true:=by
          rw [← cellsI_has sb h1]
          exact hasDot_at hm he
        have hs:cellsI a b (i + 1) = goneAt (cellsI a b i) (nth b i).dot (nth b i).gone:=by simp [cellsI,hyes]
        have hg:=gone_set (SortC_nodup hso) hm (nth b i).gone
        rw [he] at hg
        have g2':¬ (m:Int) < 0:=by omega
        cases hgo:(nth b i).gone
        · simp -dsimp [h1,ne_of_lt h1,g2',hm,ne_of_lt hm,hgo]
          repeat (first|refine ⟨by omega,?_⟩|refine ⟨by simp [capMax];omega,?_⟩|refine ⟨⟨by omega,by omega⟩,?_⟩)
          rw [hgo] at hs
          rw [goneAt_false] at hs
          exact Back_of (i + 1) [1,5,6] [(704,704)] rfl rfl (by simp [hs]; rw [wrap64 (by omega) (by omega)]) (by omega) (by omega)
        · simp -dsimp [h1,ne_of_lt h1,g2',hm,ne_of_lt hm,hgo]
          repeat (first|refine ⟨by omega,?_⟩|refine ⟨by simp [capMax];omega,?_⟩|refine ⟨⟨by omega,by omega⟩,?_⟩)
          rw [hgo] at hs hg
          simp only [Bool.or_true] at hg
          exact Back_of (i + 1) [1,5,6] [(704,704)] rfl rfl (by simp [hs,← hg]; rw [wrap64 (by omega) (by omega)]) (by omega) (by omega)
  · obtain rfl:i = b.length:=by omega
    simp -dsimp
    simp [cellsU]
def keepA (b:GState) (x:GLive):Bool:=!knows b.know x.dot || hasX b.lives x
def newB (a:GState) (x:GLive):Bool:=!knows a.know x.dot
def livA (a b:GState) (i:Nat):List GLive:=filK (keepA b) [] a.lives i
def livB (a b:GState) (i:Nat):List GLive:=insN liveLt (newB a) (livA a b a.lives.length) b.lives i
def mergeRaw (a b:GState):GState:=⟨knowMax a.know b.know,talTwo a.know b.know a.tallies b.tallies,livB a b b.lives.length,cellsU a.cs b.cs⟩
def mergeState (a b:GState):GState:=if (stateOk a && stateOk b) = true then (if stateOk (mergeRaw a b) = true then mergeRaw a b else a) else a
theorem stateOk_know {s:GState} (h:stateOk s = true):s.know.length = 3:=by
  simp only [stateOk,Bool.and_eq_true,knowOk,decide_eq_true_eq] at h
  exact h.1.1.1.1.1
theorem stateOk_reps {s:GState} (h:stateOk s = true):repsIn s.tallies:=by
  simp only [stateOk,talliesOk,Bool.and_eq_true] at h
  have h2:=h.1.1.1.2.2
  intro i hi
  have h3:=allB_iff.1 h2 i hi
  simp only [talAt,tallyOk,Bool.and_eq_true,spIn,decide_eq_true_eq] at h3
  omega
theorem stateOk_len {s:GState} (h:stateOk s = true):s.tallies.length ≤ 120 ∧ s.lives.length ≤ 120 ∧ s.cs.length ≤ 120:=by
  simp only [stateOk,talliesOk,livKsOk,celKsOk,Bool.and_eq_true,decide_eq_true_eq] at h
  exact ⟨h.1.1.1.2.1,h.1.1.2.1,h.1.2.1⟩
theorem stateOk_cells {s:GState} (h:stateOk s = true):SortC s.cs:=by
  have hk:celKsOk s.cs s.know = true:=by
    simp only [stateOk,Bool.and_eq_true] at h; exact h.1.2
  exact pw_of_nth fun i j hij hj => sorted_lt (celKs_sorted hk) j i hij hj
theorem livA_len (a b:GState) (i:Nat):(livA a b i).length ≤ i:=by
  have:=filK_len (keepA b) [] a.lives i
  simpa [livA] using this
theorem livB_len (a b:GState) (i:Nat):(livB a b i).length ≤ a.lives.length + i:=by
  have:=insN_len liveLt (newB a) (livA a b a.lives.length) b.lives i
  have:=livA_len a b a.lives.length
  unfold livB; omega
theorem addT_mem {l:List GTally} {o:ByteArray} {r v:Int} {x:GTally} (h:x ∈ addT l o r v):x ∈ l ∨ x.obj = o:=by
  unfold addT at h
  split at h
  · rcases List.mem_or_eq_of_mem_set h with h | rfl
    · exact .inl h
    · exact .inr rfl
  · rcases List.mem_cons.1 ((insF_perm _ _).mem_iff.1 h) with rfl | h
    · exact .inr rfl
    · exact .inl h
theorem addN_ok {p:GTally → Bool} {base l:List GTally} (hb:∀ x,x ∈ base → x.Ok) (hl:∀ x,x ∈ l → x.Ok):∀ {n:Nat},n ≤ l.length → ∀ x,x ∈ addN p base l n → x.Ok
  | 0,_,x,h => hb x h
  | n + 1,hn,x,h => by
    simp only [addN] at h
    split at h
    · rcases addT_mem h with h | h
      · exact addN_ok hb hl (by omega) x h
      · have:=hl _ (nth_mem (show n < l.length by omega))
        simp only [GTally.Ok] at this ⊢
        rw [h]; exact this
    · exact addN_ok hb hl (by omega) x h
theorem goneAt_mem {l:List GCell} {d:GDot} {g:Bool} {x:GCell} (h:x ∈ goneAt l d g):∃ y,y ∈ l ∧ y.obj = x.obj:=by
  obtain ⟨y,hy,e⟩:=List.mem_map.1 h
  refine ⟨y,hy,?_⟩
  rw [← e]; split <;> rfl
theorem cellsI_ok {a b:List GCell} (ha:∀ x,x ∈ a → x.Ok) (hb:∀ x,x ∈ b → x.Ok):∀ {n:Nat},n ≤ b.length → ∀ x,x ∈ cellsI a b n → x.Ok
  | 0,_,x,h => ha x h
  | n + 1,hn,x,h => by
    simp only [cellsI] at h
    split at h
    · obtain ⟨y,hy,e⟩:=goneAt_mem h
      have:=cellsI_ok ha hb (by omega) y hy
      simp only [GCell.Ok] at this ⊢
      rw [← e]; exact this
    · rcases List.mem_cons.1 ((insF_perm _ _).mem_iff.1 h) with rfl | h
      · exact hb _ (nth_mem (by omega))
      · exact cellsI_ok ha hb (by omega) x h
theorem knowMax_len (a b:List Int):(knowMax a b).length ≤ a.length:=by
  unfold knowMax; split
  · rw [maxK_len]; exact Nat.le_refl _
  · simp
theorem mergeRaw_ok {a b:GState} (ha:a.Ok) (hb:b.Ok) (ka:stateOk a = true) (kb:stateOk b = true):(mergeRaw a b).Ok:=by
  have la:=stateOk_len ka
  have lb:=stateOk_len kb
  simp only [GState.Ok] at ha hb ⊢
  obtain ⟨a0,a1,a2,a3,a4,a5,a6⟩:=ha
  obtain ⟨b0,b1,b2,b3,b4,b5,b6⟩:=hb
  have k1:=knowMax_len a.know b.know
  have t1:=addN_len (noMore a.know b.know) [] a.tallies a.tallies.length
  have t2:=addN_len (more a.know b.know) (addN (noMore a.know b.know) [] a.tallies a.tallies.length) b.tallies b.tallies.length
  have l1:=livB_len a b b.lives.length
  have c1:=cellsI_len a.cs b.cs b.cs.length
  simp only [List.length_nil] at t1
  refine ⟨?_,?_,?_,?_,?_,?_,?_⟩
  · simp only [mergeRaw]; omega
  · simp only [mergeRaw,talTwo]; omega
  · exact addN_ok (addN_ok (by simp) a2 (Nat.le_refl _)) b2 (Nat.le_refl _)
  · simp only [mergeRaw]; omega
  · intro y hy
    have h2:=(filK_mem (Nat.le_refl _)).1 ((insN_perm _ _ _ _ _).mem_iff.1 hy)
    rcases h2 with h2 | ⟨i,hi,e,_⟩
    · rcases (filK_mem (Nat.le_refl _)).1 h2 with h3 | ⟨i,hi,e,_⟩
      · cases h3
      · rw [← e]; exact a4 _ (nth_mem hi)
    · rw [← e]; exact b4 _ (nth_mem hi)
  · simp only [mergeRaw,cellsU]; omega
  · exact cellsI_ok a6 b6 (Nat.le_refl _)
@[simp] def h31:Hts:={ merge:=fun _ => false,mergeF:=fun _ => false,dr:=fun id => if id = 3 then [{ mb:=[5] },{ mb:=[5] },{ mb:=[5] },{ mb:=[5] },{ cr:=true,mb:=[5] },{ mb:=[23,5] },{ mb:=[23,5] },{ cr:=true,mb:=[5] },{ mb:=[23,26,5] },{ mb:=[23,26,5] },{ mb:=[23,26,5] },{ mb:=[23,26,5] },{ cr:=true,mb:=[5] },{ mb:=[5] },{ cr:=true,mb:=[23,26,31] },{ wr:=[320] }] else if id = 13 then [{},{},{},{},{},{},{},{},{ cr:=true },{}] else if id = 14 then [{},{},{},{},{},{},{},{ cr:=true },{},{ wr:=[320] }] else [] }
set_option maxHeartbeats 4000000 in
theorem f31_ok (a b:GState) (ha:a.Ok) (hb:b.Ok):FnR Tryz.prog 31 [.agg [.im a.know.length (flat a.know),.im a.tallies.length (flat a.tallies),.im a.lives.length (flat a.lives),.im a.cs.length (flat a.cs)],.agg [.im b.know.length (flat b.know),.im b.tallies.length (flat b.tallies),.im b.lives.length (flat b.lives),.im b.cs.length (flat b.cs)]] (.agg [.ow 3 1 (mergeState a b).know.length (flat (mergeState a b).know),.ow 104 3 (mergeState a b).tallies.length (flat (mergeState a b).tallies),.ow 98 6 (mergeState a b).lives.length (flat (mergeState a b).lives),.ow 100 8 (mergeState a b).cs.length (flat (mergeState a b).cs)]):=by
  refine FnW.of_AW TryzT_ok 0 (fn:=Tryz.f31) (by kernel_rfl) rfl (by kernel_rfl) rfl rfl rfl ?_; refine AW_of h31 TryzT_ok (by kernel_rfl) ?_
  simp -dsimp
  refine ACallK_of (f17_ok _ ha) ?_
  rw [stateOkS_eq]
  cases ka:stateOk a
  · simp -dsimp
    refine ACallK_of (f90_ok _ ha) ?_
    simp -dsimp
    simp [mergeState,ka]
  simp -dsimp
  refine ACallK_of (f17_ok _ hb) ?_
  rw [stateOkS_eq]
  cases kb:stateOk b
  · simp -dsimp
    refine ACallK_of (f90_ok _ ha) ?_
    simp -dsimp
    simp [mergeState,ka,kb]
  simp -dsimp
  have la:=stateOk_len ka
  have lb:=stateOk_len kb
  have ha2:=ha
  have hb2:=hb
  simp only [GState.Ok] at ha2 hb2
  refine ACallK_of (f91_ok _ _ ha2.1 hb2.1) ?_
  simp -dsimp
  refine ACallK_of (f92_ok _ _ ha hb (stateOk_know ka) (stateOk_know kb) (stateOk_reps ka) (stateOk_reps kb)) ?_
  simp -dsimp
  refine ACallK_of (f93_ok _ _ (by omega) (by omega) (stateOk_cells ka) (stateOk_cells kb)) ?_
  simp -dsimp
  refine AWh_loop (fun i:Nat => i ≤ a.lives.length) (fun i => mkE [(2,.box 128 0),(3,.box 192 0),(4,.box 256 0),(5,.box 320 0),(6,.c (.int .i64 i))] [(1502,.arr 0 98 6 (livA a b i).length (flat (livA a b i))),(128,.box [.c (.im a.know.length (flat a.know)),.c (.im a.tallies.length (flat a.tallies)),.c (.im a.lives.length (flat a.lives)),.c (.im a.cs.length (flat a.cs))]),(192,.box [.c (.im b.know.length (flat b.know)),.c (.im b.tallies.length (flat b.tallies)),.c (.im b.lives.length (flat b.lives)),.c (.im b.cs.length (flat b.cs))]),(256,.box [.nil,.nil,.nil,.nil]),(320,.box [.arr 1500,.arr 1501,.arr 1502,.arr 1503]),(1500,.arr 0 3 1 (knowMax a.know b.know).length (flat (knowMax a.know b.know))),(1501,.arr 0 104 3 (talTwo a.know b.know a.tallies b.tallies).length (flat (talTwo a.know b.know a.tallies b.tallies))),(1503,.arr 0 100 8 (cellsU a.cs b.cs).length (flat (cellsU a.cs b.cs)))]) (fun i => a.lives.length - i) 0 (Wk_toA [2,3,4,5,6] [(128,128),(192,192),(256,256),(320,320),(1500,1472),(1501,1664),(1503,1984)] [.cell 320 2 1502 98 6] rfl rfl (by simp [livA,filK])) (by simp) ?_
  rintro i hi
  have hal:=livA_len a b i
  refine AW_of h31 TryzT_ok (by kernel_rfl) ?_
  rcases Nat.lt_or_ge i a.lives.length with h1 | h1
  · simp -dsimp [h1,ne_of_lt h1]
    repeat (first|refine ⟨by omega,?_⟩|refine ⟨by simp [capMax];omega,?_⟩|refine ⟨⟨by omega,by omega⟩,?_⟩)
    refine ACallK_of (f67_ok _ _ hb2.1) ?_
    cases g1:knows b.know (nth a.lives i).dot
    · have hs:livA a b (i + 1) = livA a b i ++ [nth a.lives i]:=by simp [livA,filK,keepA,g1]
      simp -dsimp [h1,ne_of_lt h1]
      repeat (first|refine ⟨by omega,?_⟩|refine ⟨by simp [capMax];omega,?_⟩|refine ⟨⟨by omega,by omega⟩,?_⟩)
      exact Back_of (i + 1) [2,3,4,5,6] [(1502,3904),(128,128),(192,192),(256,256),(320,320),(1500,1500),(1501,1501),(1503,1503)] rfl rfl (by simp [hs]; rw [wrap64 (by omega) (by omega)]) (by omega) (by omega)
    · simp -dsimp [h1,ne_of_lt h1]
      repeat (first|refine ⟨by omega,?_⟩|refine ⟨by simp [capMax];omega,?_⟩|refine ⟨⟨by omega,by omega⟩,?_⟩)
      refine ACallK_of (f94_ok _ _ (by omega)) ?_
      cases g2:hasX b.lives (nth a.lives i)
      · have hs:livA a b (i + 1) = livA a b i:=by simp [livA,filK,keepA,g1,g2]
        simp -dsimp [h1,ne_of_lt h1]
        repeat (first|refine ⟨by omega,?_⟩|refine ⟨by simp [capMax];omega,?_⟩|refine ⟨⟨by omega,by omega⟩,?_⟩)
        exact Back_of (i + 1) [2,3,4,5,6] [(1502,1502),(128,128),(192,192),(256,256),(320,320),(1500,1500),(1501,1501),(1503,1503)] rfl rfl (by simp [hs]; rw [wrap64 (by omega) (by omega)]) (by omega) (by omega)
      · have hs:livA a b (i + 1) = livA a b i ++ [nth a.lives i]:=by simp [livA,filK,keepA,g1,g2]
        simp -dsimp [h1,ne_of_lt h1]
        repeat (first|refine ⟨by omega,?_⟩|refine ⟨by simp [capMax];omega,?_⟩|refine ⟨⟨by omega,by omega⟩,?_⟩)
        exact Back_of (i + 1) [2,3,4,5,6] [(1502,3904),(128,128),(192,192),(256,256),(320,320),(1500,1500),(1501,1501),(1503,1503)] rfl rfl (by simp [hs]; rw [wrap64 (by omega) (by omega)]) (by omega) (by omega)
  · obtain rfl:i = a.lives.length:=by omega
    clear hi h1
    simp -dsimp
    refine AWh_loop (fun i:Nat => i ≤ b.lives.length) (fun i => mkE [(2,.box 128 0),(3,.box 192 0),(4,.box 256 0),(5,.box 320 0),(8,.c (.int .i64 i))] [(1502,.arr 0 98 6 (livB a b i).length (flat (livB a b i))),(128,.box [.c (.im a.know.length (flat a.know)),.c (.im a.tallies.length (flat a.tallies)),.c (.im a.lives.length (flat a.lives)),.c (.im a.cs.length (flat a.cs))]),(192,.box [.c (.im b.know.length (flat b.know)),.c (.im b.tallies.length (flat b.tallies)),.c (.im b.lives.length (flat b.lives)),.c (.im b.cs.length (flat b.cs))]),(256,.box [.nil,.nil,.nil,.nil]),(320,.box [.arr 1500,.arr 1501,.arr 1502,.arr 1503]),(1500,.arr 0 3 1 (knowMax a.know b.know).length (flat (knowMax a.know b.know))),(1501,.arr 0 104 3 (talTwo a.know b.know a.tallies b.tallies).length (flat (talTwo a.know b.know a.tallies b.tallies))),(1503,.arr 0 100 8 (cellsU a.cs b.cs).length (flat (cellsU a.cs b.cs)))]) (fun i => b.lives.length - i) 0 (Wk_to [2,3,4,5,8] [(1502,1502),(128,128),(192,192),(256,256),(320,320),(1500,1500),(1501,1501),(1503,1503)] rfl rfl (by simp [livB,insN])) (by simp) ?_
    rintro i hi
    have hal:=livB_len a b i
    refine AW_of h31 TryzT_ok (by kernel_rfl) ?_
    rcases Nat.lt_or_ge i b.lives.length with h1 | h1
    · simp -dsimp [h1,ne_of_lt h1]
      repeat (first|refine ⟨by omega,?_⟩|refine ⟨by simp [capMax];omega,?_⟩|refine ⟨⟨by omega,by omega⟩,?_⟩)
      refine ACallK_of (f67_ok _ _ ha2.1) ?_
      cases g1:knows a.know (nth b.lives i).dot
      · have hs:livB a b (i + 1) = insF liveLt (nth b.lives i) (livB a b i):=by simp [livB,insN,newB,g1]
        simp -dsimp [h1,ne_of_lt h1]
        repeat (first|refine ⟨by omega,?_⟩|refine ⟨by simp [capMax];omega,?_⟩|refine ⟨⟨by omega,by omega⟩,?_⟩)
        refine ACallK_of (f95_ok _ _ (by omega)) ?_
        simp -dsimp
        exact Back_of (i + 1) [2,3,4,5,8] [(1502,5568),(128,128),(192,192),(256,256),(320,320),(1500,1500),(1501,1501),(1503,1503)] rfl rfl (by simp [hs]; rw [wrap64 (by omega) (by omega)]) (by omega) (by omega)
      · have hs:livB a b (i + 1) = livB a b i:=by simp [livB,insN,newB,g1]
        simp -dsimp [h1,ne_of_lt h1]
        repeat (first|refine ⟨by omega,?_⟩|refine ⟨by simp [capMax];omega,?_⟩|refine ⟨⟨by omega,by omega⟩,?_⟩)
        exact Back_of (i + 1) [2,3,4,5,8] [(1502,1502),(128,128),(192,192),(256,256),(320,320),(1500,1500),(1501,1501),(1503,1503)] rfl rfl (by simp [hs]; rw [wrap64 (by omega) (by omega)]) (by omega) (by omega)
    · obtain rfl:i = b.lives.length:=by omega
      clear hi h1
      simp -dsimp
      have hraw:(mergeRaw a b).Ok:=mergeRaw_ok ha hb ka kb
      refine ACallK_of (f17_ok (mergeRaw a b) hraw) ?_
      rw [stateOkS_eq]
      cases g:stateOk (mergeRaw a b)
      · simp -dsimp
        refine ACallK_of (f90_ok _ ha) ?_
        simp -dsimp
        simp [mergeState,ka,kb,g]
      · simp -dsimp
        simp [mergeState,ka,kb,g]
        simp [mergeRaw]
end Am
