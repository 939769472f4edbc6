/- Cells put together,and states: the reference's. No condition. -/
import Derived.Test.YtjbbhccphedkfaaGreatT
import Derived.Test.YtjbbhccphedkfaaGreatD
import Derived.Test.YtjbbhccphedkfaaGreatE51
import Derived.Test.YtjbbhccphedkfaaGreatAm31
import Derived.Test.YtjbbhccphedkfaaGreatE7
import Derived.Test.YtjbbhccphedkfaaGreatY2
import Derived.Test.YtjbbhccphedkfaaGreatE2
set_option linter.unusedSimpArgs false
set_option linter.unusedVariables false
set_option linter.unnecessarySimpa false
set_option linter.unusedSectionVars false
namespace Am
open Go Go.Proofs
open Cel (cells)
set_option maxRecDepth 100000
@[simp] def h93:Hts:={ merge:=fun _ => false,dr:=fun id => if id = 9 then [{},{},{},{},{},{},{},{},{},{},{}] else [] }
set_option maxHeartbeats 2000000 in
theorem f93_ok (a b:List GCell) (ha:a.length ≤ 400000000) (hb:b.length ≤ 400000000) (sa:SortC a) (sb:SortC b):FnR Tryz.prog 93 [.v (.im a.length (flat a)),.v (.im b.length (flat b))] (.v (.ow 100 8 (cellsU a b).length (flat (cellsU a b)))):=by
  refine FnW.of_AW TryzT_ok 0 (fn:=Tryz.f93) (by kernel_rfl) rfl (by kernel_rfl) rfl rfl rfl ?_; refine AW_of h93 TryzT_ok (by kernel_rfl) ?_
  simp -dsimp
  refine ⟨by simp [capMax]; omega,?_⟩
  refine AWh_loop (fun i:Nat => i ≤ b.length) (fun i => mkE [(1,.c (.im b.length (flat b))),(5,.arr 704),(6,.c (.int .i64 i))] [(704,.arr 0 100 8 (cellsI a b i).length (flat (cellsI a b i)))]) (fun i => b.length - i) 0 (Wk_to [1,5,6] [(704,704)] rfl rfl (by simp [cellsI])) (by simp) ?_
  rintro i hi
  have hkl:=cellsI_len a b i
  have hso:=cellsI_sorted sa sb i hi
  refine AW_of h93 TryzT_ok (by kernel_rfl) ?_
  rcases Nat.lt_or_ge i b.length with h1 | h1
  · simp -dsimp [h1,ne_of_lt h1]
    refine AWh_loop (fun q:Nat × Int => q.1 ≤ (cellsI a b i).length ∧ -1 ≤ q.2 ∧ q.2 < q.1 ∧ ∀ j:Nat,j < q.1 → ((nth (cellsI a b i) j).dot = (nth b i).dot ↔ (j:Int) = q.2)) (fun q => mkE [(1,.c (.im b.length (flat b))),(5,.arr 704),(6,.c (.int .i64 i)),(7,.c (.int .i64 q.2)),(8,.c (.int .i64 q.1))] [(704,.arr 0 100 8 (cellsI a b i).length (flat (cellsI a b i)))]) (fun q => (cellsI a b i).length - q.1) (0,-1) (Wk_to [1,5,6,7,8] [(704,704)] rfl rfl (by simp)) (by simp) ?_
    rintro ⟨j,p⟩ ⟨hj,hp0,hp1,hall⟩
    simp only at hj hp0 hp1 hall
    refine AW_of h93 TryzT_ok (by kernel_rfl) ?_
    rcases Nat.lt_or_ge j (cellsI a b i).length with g1 | g1
    · by_cases e:(nth (cellsI a b i) j).dot = (nth b i).dot
      · have e1:(nth (cellsI a b i) j).dot.rep = (nth b i).dot.rep:=by rw [e]
        have e2:(nth (cellsI a b i) j).dot.seq = (nth b i).dot.seq:=by rw [e]
        simp -dsimp [h1,g1,ne_of_lt h1,ne_of_lt g1,e1,e2]
        repeat (first|refine ⟨by omega,?_⟩|refine ⟨by simp [capMax];omega,?_⟩|refine ⟨⟨by omega,by omega⟩,?_⟩)
        refine Back_of (j + 1,(j:Int)) [1,5,6,7,8] [(704,704)] rfl rfl (by simp; rw [wrap64 (by omega) (by omega)]) ⟨by simp only; omega,by simp only; omega,by simp only; omega,fun k hk => ?_⟩ (by simp only; omega)
        simp only at hk ⊢
        constructor
        · intro h
          by_cases e3:k = j
          · omega
          · have h3:=pw_nth hso (show k < j by omega) g1
            simp only [cellLt] at h3
            rw [h,e,before_irr] at h3
            cases h3
        · intro h
          obtain rfl:k = j:=by omega
          exact e
      · have e0:((nth (cellsI a b i) j).dot.rep == (nth b i).dot.rep && (nth (cellsI a b i) j).dot.seq == (nth b i).dot.seq) = false:=by
          rw [Bool.eq_false_iff]; intro h; exact e (by simpa [GDot.ext_iff] using h)
        simp -dsimp [h1,g1,ne_of_lt h1,ne_of_lt g1]
        refine ⟨by omega,by omega,fun e1 e2 => absurd (GDot.ext e1 e2) e,fun _ => ?_⟩
        refine Back_of (j + 1,p) [1,5,6,7,8] [(704,704)] rfl rfl (by simp; rw [wrap64 (by omega) (by omega)]) ⟨by simp only; omega,by simp only; omega,by simp only; omega,fun k hk => ?_⟩ (by simp only; omega)
        simp only at hk ⊢
        by_cases e3:k = j
        · subst e3
          exact ⟨fun h => absurd h e,fun h => by omega⟩
        · exact hall k (by omega)
    · obtain rfl:j = (cellsI a b i).length:=by omega
      clear hj g1
      rcases Int.lt_or_le p 0 with g2 | g2
      · have hno:hasDot a (nth b i).dot = false:=by
          rw [← cellsI_has sb h1]
          exact hasDot_no fun k hk h => by have:=(hall k hk).1 h; omega
        have hs:cellsI a b (i + 1) = insF cellLt (nth b i) (cellsI a b i):=by simp [cellsI,hno]
        simp -dsimp [h1,ne_of_lt h1,g2]
        repeat (first|refine ⟨by omega,?_⟩|refine ⟨by simp [capMax];omega,?_⟩|refine ⟨⟨by omega,by omega⟩,?_⟩)
        refine ACallK_of (f155_ok _ _ (by omega)) ?_
        simp -dsimp
        exact Back_of (i + 1) [1,5,6] [(704,2752)] rfl rfl (by simp [hs]; rw [wrap64 (by omega) (by omega)]) (by omega) (by omega)
      · obtain ⟨m,rfl⟩:∃ m:Nat,p = m:=⟨p.toNat,by omega⟩
        have hm:m < (cellsI a b i).length:=by omega
        have he:(nth (cellsI a b i) m).dot = (nth b i).dot:=(hall m hm).2 rfl
        have hyes:hasDot a (nth b i).dot = true:=by
          rw [← cellsI_has sb h1]
          exact hasDot_at hm he
        have hs:cellsI a b (i + 1) = goneAt (cellsI a b i) (nth b i).dot (nth b i).gone:=by simp [cellsI,hyes]
        have hg:=gone_set (SortC_nodup hso) hm (nth b i).gone
        rw [he] at hg
        have g2':¬ (m:Int) < 0:=by omega
        cases hgo:(nth b i).gone
        · simp -dsimp [h1,ne_of_lt h1,g2',hm,ne_of_lt hm,hgo]
          repeat (first|refine ⟨by omega,?_⟩|refine ⟨by simp [capMax];omega,?_⟩|refine ⟨⟨by omega,by omega⟩,?_⟩)
          rw [hgo] at hs
          rw [goneAt_false] at hs
          exact Back_of (i + 1) [1,5,6] [(704,704)] rfl rfl (by simp [hs]; rw [wrap64 (by omega) (by omega)]) (by omega) (by omega)
        · simp -dsimp [h1,ne_of_lt h1,g2',hm,ne_of_lt hm,hgo]
          repeat (first|refine ⟨by omega,?_⟩|refine ⟨by simp [capMax];omega,?_⟩|refine ⟨⟨by omega,by omega⟩,?_⟩)
          rw [hgo] at hs hg
          simp only [Bool.or_true] at hg
          exact Back_of (i + 1) [1,5,6] [(704,704)] rfl rfl (by simp [hs,← hg]; rw [wrap64 (by omega) (by omega)]) (by omega) (by omega)
  · obtain rfl:i = b.length:=by omega
    simp -dsimp
    simp [cellsU]
def keepA (b:GState) (x:GLive):Bool:=!knows b.know x.dot || hasX b.lives x
def newB (a:GState) (x:GLive):Bool:=!knows a.know x.dot
def livA (a b:GState) (i:Nat):List GLive:=filK (keepA b) [] a.lives i
def livB (a b:GState) (i:Nat):List GLive:=insN liveLt (newB a) (livA a b a.lives.length) b.lives i
def mergeRaw (a b:GState):GState:=⟨knowMax a.know b.know,talTwo a.know b.know a.tallies b.tallies,livB a b b.lives.length,cellsU a.cs b.cs⟩
def mergeState (a b:GState):GState:=if (stateOk a && stateOk b) = true then (if stateOk (mergeRaw a b) = true then mergeRaw a b else a) else a
theorem stateOk_know {s:GState} (h:stateOk s = true):s.know.length = 3:=by
  simp only [stateOk,Bool.and_eq_true,knowOk,decide_eq_true_eq] at h
  exact h.1.1.1.1.1
theorem stateOk_reps {s:GState} (h:stateOk s = true):repsIn s.tallies:=by
  simp only [stateOk,talliesOk,Bool.and_eq_true] at h
  have h2:=h.1.1.1.2.2
  intro i hi
  have h3:=allB_iff.1 h2 i hi
  simp only [talAt,tallyOk,Bool.and_eq_true,spIn,decide_eq_true_eq] at h3
  omega
theorem stateOk_len {s:GState} (h:stateOk s = true):s.tallies.length ≤ 120 ∧ s.lives.length ≤ 120 ∧ s.cs.length ≤ 120:=by
  simp only [stateOk,talliesOk,livKsOk,celKsOk,Bool.and_eq_true,decide_eq_true_eq] at h
  exact ⟨h.1.1.1.2.1,h.1.1.2.1,h.1.2.1⟩
theorem stateOk_cells {s:GState} (h:stateOk s = true):SortC s.cs:=by
  have hk:celKsOk s.cs s.know = true:=by
    simp only [stateOk,Bool.and_eq_true] at h; exact h.1.2
  exact pw_of_nth fun i j hij hj => sorted_lt (celKs_sorted hk) j i hij hj
theorem livA_len (a b:GState) (i:Nat):(livA a b i).length ≤ i:=by
  have:=filK_len (keepA b) [] a.lives i
  simpa [livA] using this
theorem livB_len (a b:GState) (i:Nat):(livB a b i).length ≤ a.lives.length + i:=by
  have:=insN_len liveLt (newB a) (livA a b a.lives.length) b.lives i
  have:=livA_len a b a.lives.length
  unfold livB; omega
theorem addT_mem {l:List GTally} {o:ByteArray} {r v:Int} {x:GTally} (h:x ∈ addT l o r v):x ∈ l ∨ x.obj = o:=by
  unfold addT at h
  split at h
  · rcases List.mem_or_eq_of_mem_set h with h | rfl
    · exact .inl h
    · exact .inr rfl
  · rcases List.mem_cons.1 ((insF_perm _ _).mem_iff.1 h) with rfl | h
    · exact .inr rfl
    · exact .inl h
theorem addN_ok {p:GTally → Bool} {base l:List GTally} (hb:∀ x,x ∈ base → x.Ok) (hl:∀ x,x ∈ l → x.Ok):∀ {n:Nat},n ≤ l.length → ∀ x,x ∈ addN p base l n → x.Ok
  | 0,_,x,h => hb x h
  | n + 1,hn,x,h => by
    simp only [addN] at h
    split at h
    · rcases addT_mem h with h | h
      · exact addN_ok hb hl (by omega) x h
      · have:=hl _ (nth_mem (show n < l.length by omega))
        simp only [GTally.Ok] at this ⊢
        rw [h]; exact this
    · exact addN_ok hb hl (by omega) x h
theorem goneAt_mem {l:List GCell} {d:GDot} {g:Bool} {x:GCell} (h:x ∈ goneAt l d g):∃ y,y ∈ l ∧ y.obj = x.obj:=by
  obtain ⟨y,hy,e⟩:=List.mem_map.1 h
  refine ⟨y,hy,?_⟩
  rw [← e]; split <;> rfl
theorem cellsI_ok {a b:List GCell} (ha:∀ x,x ∈ a → x.Ok) (hb:∀ x,x ∈ b → x.Ok):∀ {n:Nat},n ≤ b.length → ∀ x,x ∈ cellsI a b n → x.Ok
  | 0,_,x,h => ha x h
  | n + 1,hn,x,h => by
    simp only [cellsI] at h
    split at h
    · obtain ⟨y,hy,e⟩:=goneAt_mem h
      have:=cellsI_ok ha hb (by omega) y hy
      simp only [GCell.Ok] at this ⊢
      rw [← e]; exact this
    · rcases List.mem_cons.1 ((insF_perm _ _).mem_iff.1 h) with rfl | h
      · exact hb _ (nth_mem (by omega))
      · exact cellsI_ok ha hb (by omega) x h
theorem knowMax_len (a b:List Int):(knowMax a b).length ≤ a.length:=by
  unfold knowMax; split
  · rw [maxK_len]; exact Nat.le_refl _
  · simp
theorem mergeRaw_ok {a b:GState} (ha:a.Ok) (hb:b.Ok) (ka:stateOk a = true) (kb:stateOk b = true):(mergeRaw a b).Ok:=by
  have la:=stateOk_len ka
  have lb:=stateOk_len kb
  simp only [GState.Ok] at ha hb ⊢
  obtain ⟨a0,a1,a2,a3,a4,a5,a6⟩:=ha
  obtain ⟨b0,b1,b2,b3,b4,b5,b6⟩:=hb
  have k1:=knowMax_len a.know b.know
  have t1:=addN_len (noMore a.know b.know) [] a.tallies a.tallies.length
  have t2:=addN_len (more a.know b.know) (addN (noMore a.know b.know) [] a.tallies a.tallies.length) b.tallies b.tallies.length
  have l1:=livB_len a b b.lives.length
  have c1:=cellsI_len a.cs b.cs b.cs.length
  simp only [List.length_nil] at t1
  refine ⟨?_,?_,?_,?_,?_,?_,?_⟩
  · simp only [mergeRaw]; omega
  · simp only [mergeRaw,talTwo]; omega
  · exact addN_ok (addN_ok (by simp) a2 (Nat.le_refl _)) b2 (Nat.le_refl _)
  · simp only [mergeRaw]; omega
  · intro y hy
    have h2:=(filK_mem (Nat.le_refl _)).1 ((insN_perm _ _ _ _ _).mem_iff.1 hy)
    rcases h2 with h2 | ⟨i,hi,e,_⟩
    · rcases (filK_mem (Nat.le_refl _)).1 h2 with h3 | ⟨i,hi,e,_⟩
      · cases h3
      · rw [← e]; exact a4 _ (nth_mem hi)
    · rw [← e]; exact b4 _ (nth_mem hi)
  · simp only [mergeRaw,cellsU]; omega
  · exact cellsI_ok a6 b6 (Nat.le_refl _)
@[simp] def h31:Hts:={ merge:=fun _ => false,mergeF:=fun _ => false,dr:=fun id => if id = 3 then [{ mb:=[5] },{ mb:=[5] },{ mb:=[5] },{ mb:=[5] },{ cr:=true,mb:=[5] },{ mb:=[23,5] },{ mb:=[23,5] },{ cr:=true,mb:=[5] },{ mb:=[23,26,5] },{ mb:=[23,26,5] },{ mb:=[23,26,5] },{ mb:=[23,26,5] },{ cr:=true,mb:=[5] },{ mb:=[5] },{ cr:=true,mb:=[23,26,31] },{ wr:=[320] }] else if id = 13 then [{},{},{},{},{},{},{},{},{ cr:=true },{}] else if id = 14 then [{},{},{},{},{},{},{},{ cr:=true },{},{ wr:=[320] }] else [] }
set_option maxHeartbeats 4000000 in
theorem f31_ok (a b:GState) (ha:a.Ok) (hb:b.Ok):FnR Tryz.prog 31 [.agg [.im a.know.length (flat a.know),.im a.tallies.length (flat a.tallies),.im a.lives.length (flat a.lives),.im a.cs.length (flat a.cs)],.agg [.im b.know.length (flat b.know),.im b.tallies.length (flat b.tallies),.im b.lives.length (flat b.lives),.im b.cs.length (flat b.cs)]] (.agg [.ow 3 1 (mergeState a b).know.length (flat (mergeState a b).know),.ow 104 3 (mergeState a b).tallies.length (flat (mergeState a b).tallies),.ow 98 6 (mergeState a b).lives.length (flat (mergeState a b).lives),.ow 100 8 (mergeState a b).cs.length (flat (mergeState a b).cs)]):=by
  refine FnW.of_AW TryzT_ok 0 (fn:=Tryz.f31) (by kernel_rfl) rfl (by kernel_rfl) rfl rfl rfl ?_; refine AW_of h31 TryzT_ok (by kernel_rfl) ?_
  simp -dsimp
  refine ACallK_of (f17_ok _ ha) ?_
  rw [stateOkS_eq]
  cases ka:stateOk a
  · simp -dsimp
    refine ACallK_of (f90_ok _ ha) ?_
    simp -dsimp
    simp [mergeState,ka]
  simp -dsimp
  refine ACallK_of (f17_ok _ hb) ?_
  rw [stateOkS_eq]
  cases kb:stateOk b
  · simp -dsimp
    refine ACallK_of (f90_ok _ ha) ?_
    simp -dsimp
    simp [mergeState,ka,kb]
  simp -dsimp
  have la:=stateOk_len ka
  have lb:=stateOk_len kb
  have ha2:=ha
  have hb2:=hb
  simp only [GState.Ok] at ha2 hb2
  refine ACallK_of (f91_ok _ _ ha2.1 hb2.1) ?_
  simp -dsimp
  refine ACallK_of (f92_ok _ _ ha hb (stateOk_know ka) (stateOk_know kb) (stateOk_reps ka) (stateOk_reps kb)) ?_
  simp -dsimp
  refine ACallK_of (f93_ok _ _ (by omega) (by omega) (stateOk_cells ka) (stateOk_cells kb)) ?_
  simp -dsimp
  refine AWh_loop (fun i:Nat => i ≤ a.lives.length) (fun i => mkE [(2,.box 128 0),(3,.box 192 0),(4,.box 256 0),(5,.box 320 0),(6,.c (.int .i64 i))] [(1502,.arr 0 98 6 (livA a b i).length (flat (livA a b i))),(128,.box [.c (.im a.know.length (flat a.know)),.c (.im a.tallies.length (flat a.tallies)),.c (.im a.lives.length (flat a.lives)),.c (.im a.cs.length (flat a.cs))]),(192,.box [.c (.im b.know.length (flat b.know)),.c (.im b.tallies.length (flat b.tallies)),.c (.im b.lives.length (flat b.lives)),.c (.im b.cs.length (flat b.cs))]),(256,.box [.nil,.nil,.nil,.nil]),(320,.box [.arr 1500,.arr 1501,.arr 1502,.arr 1503]),(1500,.arr 0 3 1 (knowMax a.know b.know).length (flat (knowMax a.know b.know))),(1501,.arr 0 104 3 (talTwo a.know b.know a.tallies b.tallies).length (flat (talTwo a.know b.know a.tallies b.tallies))),(1503,.arr 0 100 8 (cellsU a.cs b.cs).length (flat (cellsU a.cs b.cs)))]) (fun i => a.lives.length - i) 0 (Wk_toA [2,3,4,5,6] [(128,128),(192,192),(256,256),(320,320),(1500,1472),(1501,1664),(1503,1984)] [.cell 320 2 1502 98 6] rfl rfl (by simp [livA,filK])) (by simp) ?_
  rintro i hi
  have hal:=livA_len a b i
  refine AW_of h31 TryzT_ok (by kernel_rfl) ?_
  rcases Nat.lt_or_ge i a.lives.length with h1 | h1
  · simp -dsimp [h1,ne_of_lt h1]
    repeat (first|refine ⟨by omega,?_⟩|refine ⟨by simp [capMax];omega,?_⟩|refine ⟨⟨by omega,by omega⟩,?_⟩)
    refine ACallK_of (f67_ok _ _ hb2.1) ?_
    cases g1:knows b.know (nth a.lives i).dot
    · have hs:livA a b (i + 1) = livA a b i ++ [nth a.lives i]:=by simp [livA,filK,keepA,g1]
      simp -dsimp [h1,ne_of_lt h1]
      repeat (first|refine ⟨by omega,?_⟩|refine ⟨by simp [capMax];omega,?_⟩|refine ⟨⟨by omega,by omega⟩,?_⟩)
      exact Back_of (i + 1) [2,3,4,5,6] [(1502,3904),(128,128),(192,192),(256,256),(320,320),(1500,1500),(1501,1501),(1503,1503)] rfl rfl (by simp [hs]; rw [wrap64 (by omega) (by omega)]) (by omega) (by omega)
    · simp -dsimp [h1,ne_of_lt h1]
      repeat (first|refine ⟨by omega,?_⟩|refine ⟨by simp [capMax];omega,?_⟩|refine ⟨⟨by omega,by omega⟩,?_⟩)
      refine ACallK_of (f94_ok _ _ (by omega)) ?_
      cases g2:hasX b.lives (nth a.lives i)
      · have hs:livA a b (i + 1) = livA a b i:=by simp [livA,filK,keepA,g1,g2]
        simp -dsimp [h1,ne_of_lt h1]
        repeat (first|refine ⟨by omega,?_⟩|refine ⟨by simp [capMax];omega,?_⟩|refine ⟨⟨by omega,by omega⟩,?_⟩)
        exact Back_of (i + 1) [2,3,4,5,6] [(1502,1502),(128,128),(192,192),(256,256),(320,320),(1500,1500),(1501,1501),(1503,1503)] rfl rfl (by simp [hs]; rw [wrap64 (by omega) (by omega)]) (by omega) (by omega)
      · have hs:livA a b (i + 1) = livA a b i ++ [nth a.lives i]:=by simp [livA,filK,keepA,g1,g2]
        simp -dsimp [h1,ne_of_lt h1]
        repeat (first|refine ⟨by omega,?_⟩|refine ⟨by simp [capMax];omega,?_⟩|refine ⟨⟨by omega,by omega⟩,?_⟩)
        exact Back_of (i + 1) [2,3,4,5,6] [(1502,3904),(128,128),(192,192),(256,256),(320,320),(1500,1500),(1501,1501),(1503,1503)] rfl rfl (by simp [hs]; rw [wrap64 (by omega) (by omega)]) (by omega) (by omega)
  · obtain rfl:i = a.lives.length:=by omega
    clear hi h1
    simp -dsimp
    refine AWh_loop (fun i:Nat => i ≤ b.lives.length) (fun i => mkE [(2,.box 128 0),(3,.box 192 0),(4,.box 256 0),(5,.box 320 0),(8,.c (.int .i64 i))] [(1502,.arr 0 98 6 (livB a b i).length (flat (livB a b i))),(128,.box [.c (.im a.know.length (flat a.know)),.c (.im a.tallies.length (flat a.tallies)),.c (.im a.lives.length (flat a.lives)),.c (.im a.cs.length (flat a.cs))]),(192,.box [.c (.im b.know.length (flat b.know)),.c (.im b.tallies.length (flat b.tallies)),.c (.im b.lives.length (flat b.lives)),.c (.im b.cs.length (flat b.cs))]),(256,.box [.nil,.nil,.nil,.nil]),(320,.box [.arr 1500,.arr 1501,.arr 1502,.arr 1503]),(1500,.arr 0 3 1 (knowMax a.know b.know).length (flat (knowMax a.know b.know))),(1501,.arr 0 104 3 (talTwo a.know b.know a.tallies b.tallies).length (flat (talTwo a.know b.know a.tallies b.tallies))),(1503,.arr 0 100 8 (cellsU a.cs b.cs).length (flat (cellsU a.cs b.cs)))]) (fun i => b.lives.length - i) 0 (Wk_to [2,3,4,5,8] [(1502,1502),(128,128),(192,192),(256,256),(320,320),(1500,1500),(1501,1501),(1503,1503)] rfl rfl (by simp [livB,insN])) (by simp) ?_
    rintro i hi
    have hal:=livB_len a b i
    refine AW_of h31 TryzT_ok (by kernel_rfl) ?_
    rcases Nat.lt_or_ge i b.lives.length with h1 | h1
    · simp -dsimp [h1,ne_of_lt h1]
      repeat (first|refine ⟨by omega,?_⟩|refine ⟨by simp [capMax];omega,?_⟩|refine ⟨⟨by omega,by omega⟩,?_⟩)
      refine ACallK_of (f67_ok _ _ ha2.1) ?_
      cases g1:knows a.know (nth b.lives i).dot
      · have hs:livB a b (i + 1) = insF liveLt (nth b.lives i) (livB a b i):=by simp [livB,insN,newB,g1]
        simp -dsimp [h1,ne_of_lt h1]
        repeat (first|refine ⟨by omega,?_⟩|refine ⟨by simp [capMax];omega,?_⟩|refine ⟨⟨by omega,by omega⟩,?_⟩)
        refine ACallK_of (f95_ok _ _ (by omega)) ?_
        simp -dsimp
        exact Back_of (i + 1) [2,3,4,5,8] [(1502,5568),(128,128),(192,192),(256,256),(320,320),(1500,1500),(1501,1501),(1503,1503)] rfl rfl (by simp [hs]; rw [wrap64 (by omega) (by omega)]) (by omega) (by omega)
      · have hs:livB a b (i + 1) = livB a b i:=by simp [livB,insN,newB,g1]
        simp -dsimp [h1,ne_of_lt h1]
        repeat (first|refine ⟨by omega,?_⟩|refine ⟨by simp [capMax];omega,?_⟩|refine ⟨⟨by omega,by omega⟩,?_⟩)
        exact Back_of (i + 1) [2,3,4,5,8] [(1502,1502),(128,128),(192,192),(256,256),(320,320),(1500,1500),(1501,1501),(1503,1503)] rfl rfl (by simp [hs]; rw [wrap64 (by omega) (by omega)]) (by omega) (by omega)
    · obtain rfl:i = b.lives.length:=by omega
      clear hi h1
      simp -dsimp
      have hraw:(mergeRaw a b).Ok:=mergeRaw_ok ha hb ka kb
      refine ACallK_of (f17_ok (mergeRaw a b) hraw) ?_
      rw [stateOkS_eq]
      cases g:stateOk (mergeRaw a b)
      · simp -dsimp
        refine ACallK_of (f90_ok _ ha) ?_
        simp -dsimp
        simp [mergeState,ka,kb,g]
      · simp -dsimp
        simp [mergeState,ka,kb,g]
        simp [mergeRaw]
end Am
namespace Am
open Go Go.Proofs Go.Sort
open Cel (cells)
set_option maxRecDepth 100000
theorem stateOk_tallies {s:GState} (h:stateOk s = true):s.tallies.Pairwise fun a b => tallyLt a b = true:=by
  simp only [stateOk,talliesOk,Bool.and_eq_true] at h
  have h2:=allB_iff.1 h.1.1.1.2.2
  have step:∀ (j i:Nat),i < j → j < s.tallies.length → tallyLt (nth s.tallies i) (nth s.tallies j) = true:=by
    intro j
    induction j with
    | zero => intro i hi; omega
    | succ j ih =>
      intro i hi hj
      have h3:=h2 (j + 1) hj
      simp only [talAt,Bool.and_eq_true,Bool.or_eq_true,decide_eq_true_eq,Nat.add_sub_cancel] at h3
      have h4:tallyLt (nth s.tallies j) (nth s.tallies (j + 1)) = true:=by
        rcases h3.2 with h5 | h5
        · omega
        · exact h5
      by_cases e:i = j
      · rw [e]; exact h4
      · exact tallyLt_Lt.trans _ _ _ (ih i (by omega) (by omega)) h4
  exact pw_of_nth fun i j hij hj => step j i hij hj
theorem stateOk_lives {s:GState} (h:stateOk s = true):(s.lives.Pairwise fun a b => liveLt a b = true) ∧ ∀ x,x ∈ s.lives → knows s.know x.dot = true:=by
  simp only [stateOk,livKsOk,Bool.and_eq_true] at h
  have h2:=allB_iff.1 h.1.1.2.2
  have step:∀ (j i:Nat),i < j → j < s.lives.length → liveLt (nth s.lives i) (nth s.lives j) = true:=by
    intro j
    induction j with
    | zero => intro i hi; omega
    | succ j ih =>
      intro i hi hj
      have h3:=h2 (j + 1) hj
      simp only [livKAt,Bool.and_eq_true,Bool.or_eq_true,decide_eq_true_eq,Nat.add_sub_cancel] at h3
      have h4:liveLt (nth s.lives j) (nth s.lives (j + 1)) = true:=by
        rcases h3.2 with h5 | h5
        · omega
        · exact h5
      by_cases e:i = j
      · rw [e]; exact h4
      · exact liveLt_Lt.trans _ _ _ (ih i (by omega) (by omega)) h4
  refine ⟨pw_of_nth fun i j hij hj => step j i hij hj,fun x hx => ?_⟩
  obtain ⟨i,hi,rfl⟩:=mem_nth hx
  have h3:=h2 i hi
  simp only [livKAt,Bool.and_eq_true] at h3
  exact h3.1.1
end Am
namespace Am
open Go Go.Proofs Go.Sort
open Cel (cells)
set_option maxRecDepth 100000
end Am
namespace Am
open Go Go.Proofs
open Cel (cells)
set_option maxRecDepth 100000
@[simp] def h69:Hts:={ dr:=fun id => if id = 6 then [{},{},{},{},{},{},{},{},{}] else [] }
theorem f69_ok (a b:List Int) (ha:a.length ≤ 1073741824):FnR Tryz.prog 69 [.v (.im a.length (flat a)),.v (.im b.length (flat b))] (.v (.bool (decide (a = b)))):=by
  refine FnW.of_AW TryzT_ok 0 (fn:=Tryz.f69) (by kernel_rfl) rfl (by kernel_rfl) rfl rfl rfl ?_; refine AW_of h69 TryzT_ok (by kernel_rfl) ?_
  simp -dsimp
  refine ⟨fun h e => h (by rw [e]),fun hl => ?_⟩
  replace hl:a.length = b.length:=by omega
  refine AWh_loop (fun i:Nat => i ≤ a.length ∧ ∀ j:Nat,j < i → nth a j = nth b j) (fun i => mkE [(0,.c (.im a.length (flat a))),(1,.c (.im b.length (flat b))),(5,.c (.int .i64 i))] []) (fun i => a.length - i) 0 (Wk_to [0,1,5] [] rfl rfl (by simp)) (by simp) ?_
  rintro i ⟨hi,hall⟩
  refine AW_of h69 TryzT_ok (by kernel_rfl) ?_
  rcases Nat.lt_or_ge i a.length with h1 | h1
  · have h2:i < b.length:=by omega
    simp -dsimp [h1,h2,ne_of_lt h1,ne_of_lt h2]
    refine ⟨fun h => ?_,?_⟩
    · rintro rfl
      simp at h
    intros
    refine Back_of (i + 1) [0,1,5] [] rfl rfl (by simp; rw [wrap64 (by omega) (by omega)]) ⟨by omega,fun j hj => ?_⟩ (by omega)
    by_cases e:j = i
    · subst e
      first | assumption | (apply Int.ext <;> first | assumption | (apply GDot.ext <;> assumption))
    · exact hall j (by omega)
  · simp -dsimp [Nat.not_lt.2 h1]
    exact list_eq_of_nth hl (fun j hj => hall j (by omega))
end Am
namespace Am
open Go Go.Proofs
open Cel (cells)
set_option maxRecDepth 100000
theorem list_ne_nth {α:Type} [Cel α] {x y:List α} {i:Nat} (h:nth x i ≠ nth y i):x ≠ y:=fun e => h (by rw [e])
theorem state_eq {a b:GState}:decide (a = b) = (decide (a.know = b.know) && decide (a.tallies = b.tallies) && decide (a.lives = b.lives) && decide (a.cs = b.cs)):=by
  rw [Bool.eq_iff_iff]
  simp only [Bool.and_eq_true,decide_eq_true_eq]
  constructor
  · rintro rfl; exact ⟨⟨⟨rfl,rfl⟩,rfl⟩,rfl⟩
  · rintro ⟨⟨⟨h1,h2⟩,h3⟩,h4⟩; cases a; cases b; simp_all
@[simp] def h18:Hts:={ merge:=fun _ => false,mergeF:=fun _ => false,dr:=fun id => if id = 6 then [{},{},{},{},{},{},{},{},{},{},{}] else if id = 11 then [{},{},{},{},{},{},{},{},{},{},{}] else if id = 16 then [{},{},{},{},{},{},{},{},{},{},{}] else [] }
set_option maxHeartbeats 4000000 in
theorem f18_ok (a b:GState) (ha:a.Ok):FnR Tryz.prog 18 [.agg [.im a.know.length (flat a.know),.im a.tallies.length (flat a.tallies),.im a.lives.length (flat a.lives),.im a.cs.length (flat a.cs)],.agg [.im b.know.length (flat b.know),.im b.tallies.length (flat b.tallies),.im b.lives.length (flat b.lives),.im b.cs.length (flat b.cs)]] (.v (.bool (decide (a = b)))):=by
  simp only [GState.Ok] at ha
  obtain ⟨a0,a1,a2,a3,a4,a5,a6⟩:=ha
  rw [state_eq]
  refine FnW.of_AW TryzT_ok 0 (fn:=Tryz.f18) (by kernel_rfl) rfl (by kernel_rfl) rfl rfl rfl ?_; refine AW_of h18 TryzT_ok (by kernel_rfl) ?_
  simp -dsimp
  refine ACallK_of (f69_ok _ _ a0) ?_
  by_cases h0:a.know = b.know
  case neg => simp -dsimp [h0]
  by_cases l1:(a.tallies.length:Int) = b.tallies.length
  case neg =>
    have hne:a.tallies ≠ b.tallies:=fun e => l1 (by rw [e])
    have b1:((a.tallies.length:Int) != (b.tallies.length:Int)) = true:=by simp [l1]
    simp -dsimp [h0,b1,hne]
  have b1:((a.tallies.length:Int) != (b.tallies.length:Int)) = false:=by simp [l1]
  replace l1:a.tallies.length = b.tallies.length:=by omega
  by_cases l2:(a.lives.length:Int) = b.lives.length
  case neg =>
    have hne:a.lives ≠ b.lives:=fun e => l2 (by rw [e])
    have b2:((a.lives.length:Int) != (b.lives.length:Int)) = true:=by simp [l2]
    simp -dsimp [h0,b1,b2,hne]
  have b2:((a.lives.length:Int) != (b.lives.length:Int)) = false:=by simp [l2]
  replace l2:a.lives.length = b.lives.length:=by omega
  by_cases l3:(a.cs.length:Int) = b.cs.length
  case neg =>
    have hne:a.cs ≠ b.cs:=fun e => l3 (by rw [e])
    have b3:((a.cs.length:Int) != (b.cs.length:Int)) = true:=by simp [l3]
    simp -dsimp [h0,b1,b2,b3,hne]
  have b3:((a.cs.length:Int) != (b.cs.length:Int)) = false:=by simp [l3]
  replace l3:a.cs.length = b.cs.length:=by omega
  simp -dsimp [h0,b1,b2,b3]
  refine AWh_loop (fun i:Nat => i ≤ a.tallies.length ∧ ∀ j:Nat,j < i → nth a.tallies j = nth b.tallies j) (fun i => mkE [(2,.box 128 0),(3,.box 192 0),(5,.c (.int .i64 i))] [(128,.box [.c (.im a.know.length (flat a.know)),.c (.im a.tallies.length (flat a.tallies)),.c (.im a.lives.length (flat a.lives)),.c (.im a.cs.length (flat a.cs))]),(192,.box [.c (.im b.know.length (flat b.know)),.c (.im b.tallies.length (flat b.tallies)),.c (.im b.lives.length (flat b.lives)),.c (.im b.cs.length (flat b.cs))])]) (fun i => a.tallies.length - i) 0 (Wk_to [2,3,5] [(128,128),(192,192)] rfl rfl (by simp [h0])) (by simp) ?_
  rintro i ⟨hi,hall⟩
  refine AW_of h18 TryzT_ok (by kernel_rfl) ?_
  rcases Nat.lt_or_ge i a.tallies.length with g1 | g1
  · have g2:i < b.tallies.length:=by omega
    simp -dsimp [g1,g2,ne_of_lt g1,ne_of_lt g2]
    refine ⟨by omega,by omega,?_⟩
    refine ⟨fun h => ?_,?_⟩
    · have hne:a.tallies ≠ b.tallies:=list_ne_nth (i:=i) (fun e => by rw [e] at h; simp at h)
      simp [hne]
    intros
    refine Back_of (i + 1) [2,3,5] [(128,128),(192,192)] rfl rfl (by simp; rw [wrap64 (by omega) (by omega)]) ⟨by omega,fun j hj => ?_⟩ (by omega)
    by_cases e:j = i
    · subst e
      apply GTally.ext <;> first | assumption | (apply GDot.ext <;> assumption)
    · exact hall j (by omega)
  obtain rfl:i = a.tallies.length:=by omega
  have q1:a.tallies = b.tallies:=list_eq_of_nth l1 (fun j hj => hall j (by omega))
  clear hi hall g1
  simp -dsimp
  refine AWh_loop (fun i:Nat => i ≤ a.lives.length ∧ ∀ j:Nat,j < i → nth a.lives j = nth b.lives j) (fun i => mkE [(2,.box 128 0),(3,.box 192 0),(6,.c (.int .i64 i))] [(128,.box [.c (.im a.know.length (flat a.know)),.c (.im a.tallies.length (flat a.tallies)),.c (.im a.lives.length (flat a.lives)),.c (.im a.cs.length (flat a.cs))]),(192,.box [.c (.im b.know.length (flat b.know)),.c (.im b.tallies.length (flat b.tallies)),.c (.im b.lives.length (flat b.lives)),.c (.im b.cs.length (flat b.cs))])]) (fun i => a.lives.length - i) 0 (Wk_to [2,3,6] [(128,128),(192,192)] rfl rfl (by simp [h0])) (by simp) ?_
  rintro i ⟨hi,hall⟩
  refine AW_of h18 TryzT_ok (by kernel_rfl) ?_
  rcases Nat.lt_or_ge i a.lives.length with g1 | g1
  · have g2:i < b.lives.length:=by omega
    simp -dsimp [g1,g2,ne_of_lt g1,ne_of_lt g2]
    refine ⟨by omega,by omega,?_⟩
    refine ⟨fun h => ?_,?_⟩
    · have hne:a.lives ≠ b.lives:=list_ne_nth (i:=i) (fun e => by rw [e] at h; simp at h)
      simp [hne]
    intros
    refine Back_of (i + 1) [2,3,6] [(128,128),(192,192)] rfl rfl (by simp; rw [wrap64 (by omega) (by omega)]) ⟨by omega,fun j hj => ?_⟩ (by omega)
    by_cases e:j = i
    · subst e
      apply GLive.ext <;> first | assumption | (apply GDot.ext <;> assumption)
    · exact hall j (by omega)
  obtain rfl:i = a.lives.length:=by omega
  have q2:a.lives = b.lives:=list_eq_of_nth l2 (fun j hj => hall j (by omega))
  clear hi hall g1
  simp -dsimp
  refine AWh_loop (fun i:Nat => i ≤ a.cs.length ∧ ∀ j:Nat,j < i → nth a.cs j = nth b.cs j) (fun i => mkE [(2,.box 128 0),(3,.box 192 0),(7,.c (.int .i64 i))] [(128,.box [.c (.im a.know.length (flat a.know)),.c (.im a.tallies.length (flat a.tallies)),.c (.im a.lives.length (flat a.lives)),.c (.im a.cs.length (flat a.cs))]),(192,.box [.c (.im b.know.length (flat b.know)),.c (.im b.tallies.length (flat b.tallies)),.c (.im b.lives.length (flat b.lives)),.c (.im b.cs.length (flat b.cs))])]) (fun i => a.cs.length - i) 0 (Wk_to [2,3,7] [(128,128),(192,192)] rfl rfl (by simp [h0])) (by simp) ?_
  rintro i ⟨hi,hall⟩
  refine AW_of h18 TryzT_ok (by kernel_rfl) ?_
  rcases Nat.lt_or_ge i a.cs.length with g1 | g1
  · have g2:i < b.cs.length:=by omega
    simp -dsimp [g1,g2,ne_of_lt g1,ne_of_lt g2]
    refine ⟨by omega,by omega,?_⟩
    refine ⟨fun h => ?_,?_⟩
    · have hne:a.cs ≠ b.cs:=list_ne_nth (i:=i) (fun e => by rw [e] at h; simp at h)
      simp [hne]
    intros
    refine Back_of (i + 1) [2,3,7] [(128,128),(192,192)] rfl rfl (by simp; rw [wrap64 (by omega) (by omega)]) ⟨by omega,fun j hj => ?_⟩ (by omega)
    by_cases e:j = i
    · subst e
      apply GCell.ext <;> first | assumption | (apply GDot.ext <;> assumption)
    · exact hall j (by omega)
  obtain rfl:i = a.cs.length:=by omega
  have q3:a.cs = b.cs:=list_eq_of_nth l3 (fun j hj => hall j (by omega))
  clear hi hall g1
  simp -dsimp
  simp [h0,q1,q2,q3]
end Am
