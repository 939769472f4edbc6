/- What changed,done: of both. No condition. -/
import Derived.Test.YteidfkbfocdnmaaGreatT
import Derived.Test.YteidfkbfocdnmaaGreatD
import Derived.Test.YteidfkbfocdnmaaGreatE56
import Derived.Test.YteidfkbfocdnmaaGreatE9
import Derived.Test.YteidfkbfocdnmaaGreatAm31
import Derived.Test.YteidfkbfocdnmaaGreatE76
import Derived.Test.YteidfkbfocdnmaaGreatE64
set_option linter.unusedSimpArgs false
set_option linter.unusedVariables false
set_option linter.unnecessarySimpa false
set_option linter.unusedSectionVars false
namespace Am
open Go Go.Proofs Go.Sort
open Cel (cells)
set_option maxRecDepth 100000
def goneL (d:GDelta) (x:GLive):Bool:=knows d.know x.dot && (!knows d.base x.dot && !hasX d.lives x)
def keepD (d:GDelta) (x:GLive):Bool:=!goneL d x && !hasX d.dead x.dot
def dA (s:GState) (d:GDelta) (i:Nat):List GLive:=filK (keepD d) [] s.lives i
def dB (s:GState) (d:GDelta) (i:Nat):List GLive:=insN liveLt (newB s) (dA s d s.lives.length) d.lives i
def doneRaw (s:GState) (d:GDelta):GState:=⟨knowMax s.know d.know,talTwo s.know d.know s.tallies d.tallies,dB s d d.lives.length,cellsU s.cs d.cs⟩
def doDelta (s:GState) (d:GDelta):GState × Int :=
  if stateOk s = false then (s,3) else if deltaOk d = false then (s,3) else
  if knowIn d.know s.know = true then (s,1) else
  if knowIn d.base s.know = false then (s,2) else
  if tooMany (doneRaw s d) = true then (s,4) else
  if stateOk (doneRaw s d) = false then (s,3) else (doneRaw s d,0)
theorem dA_len (s:GState) (d:GDelta) (i:Nat):(dA s d i).length ≤ i:=by
  have:=filK_len (keepD d) [] s.lives i
  simpa [dA] using this
theorem dB_len (s:GState) (d:GDelta) (i:Nat):(dB s d i).length ≤ s.lives.length + i:=by
  have:=insN_len liveLt (newB s) (dA s d s.lives.length) d.lives i
  have:=dA_len s d s.lives.length
  unfold dB; omega
theorem livKs_pw {l:List GLive} {k:List Int} (h:livKsOk l k = true):(l.Pairwise fun a b => liveLt a b = true) ∧ ∀ x,x ∈ l → knows k x.dot = true:=by
  simp only [livKsOk,Bool.and_eq_true] at h
  have h2:=allB_iff.1 h.2
  have step:∀ (j i:Nat),i < j → j < l.length → liveLt (nth l i) (nth l j) = true:=by
    intro j
    induction j with
    | zero => intro i hi; omega
    | succ j ih =>
      intro i hi hj
      have h3:=h2 (j + 1) hj
      simp only [livKAt,Bool.and_eq_true,Bool.or_eq_true,decide_eq_true_eq,Nat.add_sub_cancel] at h3
      have h4:liveLt (nth l j) (nth l (j + 1)) = true:=by
        rcases h3.2 with h5 | h5
        · omega
        · exact h5
      by_cases e:i = j
      · rw [e]; exact h4
      · exact liveLt_Lt.trans _ _ _ (ih i (by omega) (by omega)) h4
  refine ⟨pw_of_nth fun i j hij hj => step j i hij hj,fun x hx => ?_⟩
  obtain ⟨i,hi,rfl⟩:=mem_nth hx
  have h3:=h2 i hi
  simp only [livKAt,Bool.and_eq_true] at h3
  exact h3.1.1
theorem tals_pw {l:List GTally} (h:talliesOk l = true):l.Pairwise fun a b => tallyLt a b = true:=by
  simp only [talliesOk,Bool.and_eq_true] at h
  have h2:=allB_iff.1 h.2
  have step:∀ (j i:Nat),i < j → j < l.length → tallyLt (nth l i) (nth l j) = true:=by
    intro j
    induction j with
    | zero => intro i hi; omega
    | succ j ih =>
      intro i hi hj
      have h3:=h2 (j + 1) hj
      simp only [talAt,Bool.and_eq_true,Bool.or_eq_true,decide_eq_true_eq,Nat.add_sub_cancel] at h3
      have h4:tallyLt (nth l j) (nth l (j + 1)) = true:=by
        rcases h3.2 with h5 | h5
        · omega
        · exact h5
      by_cases e:i = j
      · rw [e]; exact h4
      · exact tallyLt_Lt.trans _ _ _ (ih i (by omega) (by omega)) h4
  exact pw_of_nth fun i j hij hj => step j i hij hj
structure DeltaF (d:GDelta):Prop where
  know:d.know.length = 3
  tals:d.tallies.Pairwise fun a b => tallyLt a b = true
  reps:repsIn d.tallies
  lives:d.lives.Pairwise fun a b => liveLt a b = true
  cs:SortC d.cs
  l1:d.tallies.length ≤ 120
  l2:d.lives.length ≤ 120
  l3:d.cs.length ≤ 120
theorem deltaOk_F {d:GDelta} (h:deltaOk d = true):DeltaF d:=by
  simp only [deltaOk,knowIn,talsOk,Bool.and_eq_true] at h
  have hk:knowOk d.know = true:=by simp_all
  have ht:talliesOk d.tallies = true:=by simp_all
  have hl:livKsOk d.lives d.know = true:=by simp_all
  have hc:celKsOk d.cs d.know = true:=by simp_all
  have hk3:d.know.length = 3:=by simp only [knowOk,Bool.and_eq_true,decide_eq_true_eq] at hk; exact hk.1
  refine ⟨hk3,tals_pw ht,?_,(livKs_pw hl).1,pw_of_nth fun i j hij hj => sorted_lt (celKs_sorted hc) j i hij hj,?_,?_,?_⟩
  · intro i hi
    simp only [talliesOk,Bool.and_eq_true] at ht
    have h3:=allB_iff.1 ht.2 i hi
    simp only [talAt,tallyOk,Bool.and_eq_true,spIn,decide_eq_true_eq] at h3
    omega
  · simp only [talliesOk,Bool.and_eq_true,decide_eq_true_eq] at ht; exact ht.1
  · simp only [livKsOk,Bool.and_eq_true,decide_eq_true_eq] at hl; exact hl.1
  · simp only [celKsOk,Bool.and_eq_true,decide_eq_true_eq] at hc; exact hc.1
theorem doneRaw_ok {s:GState} {d:GDelta} (hs:s.Ok) (hd:d.Ok) (ks:stateOk s = true) (kd:DeltaF d):(doneRaw s d).Ok:=by
  have la:=stateOk_len ks
  have l1:=kd.l1
  have l2:=kd.l2
  have l3:=kd.l3
  simp only [GState.Ok,GDelta.Ok] at hs hd ⊢
  obtain ⟨a0,a1,a2,a3,a4,a5,a6⟩:=hs
  obtain ⟨b0,b1,b2,b3,b4,b5,b6,b7,b8⟩:=hd
  have k1:=knowMax_len s.know d.know
  have t1:=addN_len (noMore s.know d.know) [] s.tallies s.tallies.length
  have t2:=addN_len (more s.know d.know) (addN (noMore s.know d.know) [] s.tallies s.tallies.length) d.tallies d.tallies.length
  have l1:=dB_len s d d.lives.length
  have c1:=cellsI_len s.cs d.cs d.cs.length
  simp only [List.length_nil] at t1
  refine ⟨?_,?_,?_,?_,?_,?_,?_⟩
  · simp only [doneRaw]; omega
  · simp only [doneRaw,talTwo]; omega
  · exact addN_ok (addN_ok (by simp) a2 (Nat.le_refl _)) b3 (Nat.le_refl _)
  · simp only [doneRaw]; omega
  · intro y hy
    have h2:=(filK_mem (Nat.le_refl _)).1 ((insN_perm _ _ _ _ _).mem_iff.1 hy)
    rcases h2 with h2 | ⟨i,hi,e,_⟩
    · rcases (filK_mem (Nat.le_refl _)).1 h2 with h3 | ⟨i,hi,e,_⟩
      · cases h3
      · rw [← e]; exact a4 _ (nth_mem hi)
    · rw [← e]; exact b5 _ (nth_mem hi)
  · simp only [doneRaw,cellsU]; omega
  · exact cellsI_ok a6 b8 (Nat.le_refl _)
@[simp] def h341:Hts:={ merge:=fun _ => false,mergeF:=fun _ => false,lend:=fun f => if f = 275 then [.box [0,2,3]] else [],dr:=fun id => if id = 1 then [{ mb:=[5] },{ mb:=[5] },{ mb:=[5] },{ mb:=[5] },{ cr:=true,mb:=[5] },{ mb:=[18,5] },{ mb:=[18,5] },{ mb:=[18,5] },{ mb:=[18,5] },{ cr:=true,mb:=[5] },{ mb:=[5] },{ cr:=true,mb:=[18,23] },{ wr:=[320] }] else if id = 6 then [{},{},{},{},{},{},{},{},{},{},{},{},{}] else if id = 12 then [{},{},{},{},{},{},{},{},{},{},{},{},{}] else if id = 24 then [{},{},{},{},{},{},{},{},{ cr:=true },{}] else if id = 25 then [{},{},{},{},{},{},{},{ cr:=true },{},{ wr:=[320] }] else [] }
set_option maxHeartbeats 8000000 in
theorem f341_ok (s:GState) (d:GDelta) (hs:s.Ok) (hd:d.Ok) (ks:stateOk s = true) (F:DeltaF d):FnR Tryz.prog 341 [.agg [.im s.know.length (flat s.know),.im s.tallies.length (flat s.tallies),.im s.lives.length (flat s.lives),.im s.cs.length (flat s.cs)],.agg [.im d.base.length (flat d.base),.im d.know.length (flat d.know),.im d.tallies.length (flat d.tallies),.im d.lives.length (flat d.lives),.im d.dead.length (flat d.dead),.im d.cs.length (flat d.cs)]] (.agg [.ow 3 1 (doneRaw s d).know.length (flat (doneRaw s d).know),.ow 179 3 (doneRaw s d).tallies.length (flat (doneRaw s d).tallies),.ow 159 6 (doneRaw s d).lives.length (flat (doneRaw s d).lives),.ow 72 8 (doneRaw s d).cs.length (flat (doneRaw s d).cs)]):=by
  have la:=stateOk_len ks
  have sk:=stateOk_know ks
  have sr:=stateOk_reps ks
  obtain ⟨fk,ft,fr,fl,fc,f1,f2,f3⟩:=F
  have hs2:=hs
  have hd2:=hd
  simp only [GState.Ok] at hs2
  simp only [GDelta.Ok] at hd2
  refine FnW.of_AW TryzT_ok 0 (fn:=Tryz.f341) (by kernel_rfl) rfl (by kernel_rfl) rfl rfl rfl ?_; refine AW_of h341 TryzT_ok (by kernel_rfl) ?_
  simp -dsimp
  refine ACallK_of (f148_ok _ _ hs2.1 hd2.2.1) ?_
  simp -dsimp
  refine ACallK_of (f150_ok _ _ (by omega) (by omega) (stateOk_cells ks) fc) ?_
  simp -dsimp
  refine AWh_loop (fun i:Nat => i ≤ s.tallies.length) (fun i => mkE [(2,.box 128 0),(3,.box 192 0),(4,.box 256 0),(5,.box 320 0),(6,.c (.int .i64 i))] [(900002,.arr 0 179 3 (addN (noMore s.know d.know) [] s.tallies i).length (flat (addN (noMore s.know d.know) [] s.tallies i))),(128,.box [.c (.im s.know.length (flat s.know)),.c (.im s.tallies.length (flat s.tallies)),.c (.im s.lives.length (flat s.lives)),.c (.im s.cs.length (flat s.cs))]),(192,.box [.c (.im d.base.length (flat d.base)),.c (.im d.know.length (flat d.know)),.c (.im d.tallies.length (flat d.tallies)),.c (.im d.lives.length (flat d.lives)),.c (.im d.dead.length (flat d.dead)),.c (.im d.cs.length (flat d.cs))]),(256,.box [.nil,.nil,.nil,.nil]),(320,.box [.arr 900001,.arr 900002,.nil,.arr 900004]),(900001,.arr 0 3 1 (knowMax s.know d.know).length (flat (knowMax s.know d.know))),(900004,.arr 0 72 8 (cellsU s.cs d.cs).length (flat (cellsU s.cs d.cs)))]) (fun i => s.tallies.length - i) 0 (Wk_toA [2,3,4,5,6] [(128,128),(192,192),(256,256),(320,320),(900001,1152),(900004,1472)] [.cell 320 1 900002 179 3] rfl rfl (by simp [addN])) (by simp) ?_
  rintro i hi
  have hal:=addN_len (noMore s.know d.know) [] s.tallies i
  simp only [List.length_nil] at hal
  refine AW_of h341 TryzT_ok (by kernel_rfl) ?_
  rcases Nat.lt_or_ge i s.tallies.length with h1 | h1
  · have hr:=sr i h1
    have q1:(nth s.tallies i).rep.toNat < s.know.length:=by omega
    have q2:(nth s.tallies i).rep.toNat < d.know.length:=by omega
    by_cases g:nth d.know (nth s.tallies i).rep.toNat ≤ nth s.know (nth s.tallies i).rep.toNat
    · have hn:addN (noMore s.know d.know) [] s.tallies (i + 1) = addT (addN (noMore s.know d.know) [] s.tallies i) (nth s.tallies i).obj (nth s.tallies i).rep (nth s.tallies i).sum:=by simp [addN,noMore,g]
      simp -dsimp [h1,ne_of_lt h1,q1,q2,g,ne_of_lt q1,ne_of_lt q2]
      repeat (first|refine ⟨by omega,?_⟩|refine ⟨by simp [capMax];omega,?_⟩|refine ⟨⟨by omega,by omega⟩,?_⟩)
      refine ACallW_go ?_
      refine ACallC_go (fun us => f275_ok _ _ _ _ _ _ _ (by omega)) ?_
      simp -dsimp
      exact Back_of (i + 1) [2,3,4,5,6] [(900002,3625),(128,128),(192,192),(256,256),(320,320),(900001,900001),(900004,900004)] rfl rfl (by simp [hn]; rw [wrap64 (by omega) (by omega)]) (by omega) (by omega)
    · have hn:addN (noMore s.know d.know) [] s.tallies (i + 1) = (addN (noMore s.know d.know) [] s.tallies i):=by simp [addN,noMore,g]
      simp -dsimp [h1,ne_of_lt h1,q1,q2,g,ne_of_lt q1,ne_of_lt q2]
      repeat (first|refine ⟨by omega,?_⟩|refine ⟨by simp [capMax];omega,?_⟩|refine ⟨⟨by omega,by omega⟩,?_⟩)
      exact Back_of (i + 1) [2,3,4,5,6] [(900002,900002),(128,128),(192,192),(256,256),(320,320),(900001,900001),(900004,900004)] rfl rfl (by simp [hn]; rw [wrap64 (by omega) (by omega)]) (by omega) (by omega)
  obtain rfl:i = s.tallies.length:=by omega
  clear hi h1
  simp -dsimp
  refine AWh_loop (fun i:Nat => i ≤ d.tallies.length) (fun i => mkE [(2,.box 128 0),(3,.box 192 0),(4,.box 256 0),(5,.box 320 0),(8,.c (.int .i64 i))] [(900002,.arr 0 179 3 (addN (more s.know d.know) (addN (noMore s.know d.know) [] s.tallies s.tallies.length) d.tallies i).length (flat (addN (more s.know d.know) (addN (noMore s.know d.know) [] s.tallies s.tallies.length) d.tallies i))),(128,.box [.c (.im s.know.length (flat s.know)),.c (.im s.tallies.length (flat s.tallies)),.c (.im s.lives.length (flat s.lives)),.c (.im s.cs.length (flat s.cs))]),(192,.box [.c (.im d.base.length (flat d.base)),.c (.im d.know.length (flat d.know)),.c (.im d.tallies.length (flat d.tallies)),.c (.im d.lives.length (flat d.lives)),.c (.im d.dead.length (flat d.dead)),.c (.im d.cs.length (flat d.cs))]),(256,.box [.nil,.nil,.nil,.nil]),(320,.box [.arr 900001,.arr 900002,.nil,.arr 900004]),(900001,.arr 0 3 1 (knowMax s.know d.know).length (flat (knowMax s.know d.know))),(900004,.arr 0 72 8 (cellsU s.cs d.cs).length (flat (cellsU s.cs d.cs)))]) (fun i => d.tallies.length - i) 0 (Wk_to [2,3,4,5,8] [(900002,900002),(128,128),(192,192),(256,256),(320,320),(900001,900001),(900004,900004)] rfl rfl (by simp [addN])) (by simp) ?_
  rintro i hi
  have hal2:=addN_len (more s.know d.know) (addN (noMore s.know d.know) [] s.tallies s.tallies.length) d.tallies i
  refine AW_of h341 TryzT_ok (by kernel_rfl) ?_
  rcases Nat.lt_or_ge i d.tallies.length with h1 | h1
  · have hr:=fr i h1
    have q1:(nth d.tallies i).rep.toNat < s.know.length:=by omega
    have q2:(nth d.tallies i).rep.toNat < d.know.length:=by omega
    by_cases g:nth s.know (nth d.tallies i).rep.toNat < nth d.know (nth d.tallies i).rep.toNat
    · have hn:addN (more s.know d.know) (addN (noMore s.know d.know) [] s.tallies s.tallies.length) d.tallies (i + 1) = addT (addN (more s.know d.know) (addN (noMore s.know d.know) [] s.tallies s.tallies.length) d.tallies i) (nth d.tallies i).obj (nth d.tallies i).rep (nth d.tallies i).sum:=by simp [addN,more,g]
      simp -dsimp [h1,ne_of_lt h1,q1,q2,g,ne_of_lt q1,ne_of_lt q2]
      repeat (first|refine ⟨by omega,?_⟩|refine ⟨by simp [capMax];omega,?_⟩|refine ⟨⟨by omega,by omega⟩,?_⟩)
      refine ACallW_go ?_
      refine ACallC_go (fun us => f275_ok _ _ _ _ _ _ _ (by omega)) ?_
      simp -dsimp
      exact Back_of (i + 1) [2,3,4,5,8] [(900002,5673),(128,128),(192,192),(256,256),(320,320),(900001,900001),(900004,900004)] rfl rfl (by simp [hn]; rw [wrap64 (by omega) (by omega)]) (by omega) (by omega)
    · have hn:addN (more s.know d.know) (addN (noMore s.know d.know) [] s.tallies s.tallies.length) d.tallies (i + 1) = (addN (more s.know d.know) (addN (noMore s.know d.know) [] s.tallies s.tallies.length) d.tallies i):=by simp [addN,more,g]
      simp -dsimp [h1,ne_of_lt h1,q1,q2,g,ne_of_lt q1,ne_of_lt q2]
      repeat (first|refine ⟨by omega,?_⟩|refine ⟨by simp [capMax];omega,?_⟩|refine ⟨⟨by omega,by omega⟩,?_⟩)
      exact Back_of (i + 1) [2,3,4,5,8] [(900002,900002),(128,128),(192,192),(256,256),(320,320),(900001,900001),(900004,900004)] rfl rfl (by simp [hn]; rw [wrap64 (by omega) (by omega)]) (by omega) (by omega)
  obtain rfl:i = d.tallies.length:=by omega
  clear hi h1
  simp -dsimp
  refine AWh_loop (fun i:Nat => i ≤ s.lives.length) (fun i => mkE [(2,.box 128 0),(3,.box 192 0),(4,.box 256 0),(5,.box 320 0),(10,.c (.int .i64 i))] [(900003,.arr 0 159 6 (dA s d i).length (flat (dA s d i))),(128,.box [.c (.im s.know.length (flat s.know)),.c (.im s.tallies.length (flat s.tallies)),.c (.im s.lives.length (flat s.lives)),.c (.im s.cs.length (flat s.cs))]),(192,.box [.c (.im d.base.length (flat d.base)),.c (.im d.know.length (flat d.know)),.c (.im d.tallies.length (flat d.tallies)),.c (.im d.lives.length (flat d.lives)),.c (.im d.dead.length (flat d.dead)),.c (.im d.cs.length (flat d.cs))]),(256,.box [.nil,.nil,.nil,.nil]),(320,.box [.arr 900001,.arr 900002,.arr 900003,.arr 900004]),(900001,.arr 0 3 1 (knowMax s.know d.know).length (flat (knowMax s.know d.know))),(900004,.arr 0 72 8 (cellsU s.cs d.cs).length (flat (cellsU s.cs d.cs))),(900002,.arr 0 179 3 (talTwo s.know d.know s.tallies d.tallies).length (flat (talTwo s.know d.know s.tallies d.tallies)))]) (fun i => s.lives.length - i) 0 (Wk_toA [2,3,4,5,10] [(128,128),(192,192),(256,256),(320,320),(900001,900001),(900004,900004),(900002,900002)] [.cell 320 2 900003 159 6] rfl rfl (by simp [dA,filK,talTwo])) (by simp) ?_
  rintro i hi
  have hal:=dA_len s d i
  refine AW_of h341 TryzT_ok (by kernel_rfl) ?_
  rcases Nat.lt_or_ge i s.lives.length with h1 | h1
  · simp -dsimp [h1,ne_of_lt h1]
    repeat (first|refine ⟨by omega,?_⟩|refine ⟨by simp [capMax];omega,?_⟩|refine ⟨⟨by omega,by omega⟩,?_⟩)
    refine ACallK_of (f17_ok _ _ hd2.2.1) ?_
    cases g1:knows d.know (nth s.lives i).dot
    · skip
      simp -dsimp [h1,ne_of_lt h1]
      repeat (first|refine ⟨by omega,?_⟩|refine ⟨by simp [capMax];omega,?_⟩|refine ⟨⟨by omega,by omega⟩,?_⟩)
      refine ACallK_of (f392_ok _ _ (by omega)) ?_
      cases g4:hasX d.dead (nth s.lives i).dot
      · have hn:dA s d (i + 1) = dA s d i ++ [(nth s.lives i)]:=by simp [dA,filK,keepD,goneL,g4,g1]
        simp -dsimp [h1,ne_of_lt h1]
        repeat (first|refine ⟨by omega,?_⟩|refine ⟨by simp [capMax];omega,?_⟩|refine ⟨⟨by omega,by omega⟩,?_⟩)
        exact Back_of (i + 1) [2,3,4,5,10] [(900003,8640),(128,128),(192,192),(256,256),(320,320),(900001,900001),(900004,900004),(900002,900002)] rfl rfl (by simp [hn]; rw [wrap64 (by omega) (by omega)]) (by omega) (by omega)
      · have hn:dA s d (i + 1) = dA s d i:=by simp [dA,filK,keepD,goneL,g4,g1]
        simp -dsimp [h1,ne_of_lt h1]
        repeat (first|refine ⟨by omega,?_⟩|refine ⟨by simp [capMax];omega,?_⟩|refine ⟨⟨by omega,by omega⟩,?_⟩)
        exact Back_of (i + 1) [2,3,4,5,10] [(900003,900003),(128,128),(192,192),(256,256),(320,320),(900001,900001),(900004,900004),(900002,900002)] rfl rfl (by simp [hn]; rw [wrap64 (by omega) (by omega)]) (by omega) (by omega)
    simp -dsimp [h1,ne_of_lt h1]
    repeat (first|refine ⟨by omega,?_⟩|refine ⟨by simp [capMax];omega,?_⟩|refine ⟨⟨by omega,by omega⟩,?_⟩)
    refine ACallK_of (f17_ok _ _ hd2.1) ?_
    cases g2:knows d.base (nth s.lives i).dot
    case true =>
      simp -dsimp [h1,ne_of_lt h1]
      repeat (first|refine ⟨by omega,?_⟩|refine ⟨by simp [capMax];omega,?_⟩|refine ⟨⟨by omega,by omega⟩,?_⟩)
      refine ACallK_of (f392_ok _ _ (by omega)) ?_
      cases g4:hasX d.dead (nth s.lives i).dot
      · have hn:dA s d (i + 1) = dA s d i ++ [(nth s.lives i)]:=by simp [dA,filK,keepD,goneL,g4,g1,g2]
        simp -dsimp [h1,ne_of_lt h1]
        repeat (first|refine ⟨by omega,?_⟩|refine ⟨by simp [capMax];omega,?_⟩|refine ⟨⟨by omega,by omega⟩,?_⟩)
        exact Back_of (i + 1) [2,3,4,5,10] [(900003,8640),(128,128),(192,192),(256,256),(320,320),(900001,900001),(900004,900004),(900002,900002)] rfl rfl (by simp [hn]; rw [wrap64 (by omega) (by omega)]) (by omega) (by omega)
      · have hn:dA s d (i + 1) = dA s d i:=by simp [dA,filK,keepD,goneL,g4,g1,g2]
        simp -dsimp [h1,ne_of_lt h1]
        repeat (first|refine ⟨by omega,?_⟩|refine ⟨by simp [capMax];omega,?_⟩|refine ⟨⟨by omega,by omega⟩,?_⟩)
        exact Back_of (i + 1) [2,3,4,5,10] [(900003,900003),(128,128),(192,192),(256,256),(320,320),(900001,900001),(900004,900004),(900002,900002)] rfl rfl (by simp [hn]; rw [wrap64 (by omega) (by omega)]) (by omega) (by omega)
    simp -dsimp [h1,ne_of_lt h1]
    repeat (first|refine ⟨by omega,?_⟩|refine ⟨by simp [capMax];omega,?_⟩|refine ⟨⟨by omega,by omega⟩,?_⟩)
    refine ACallK_of (f151_ok _ _ (by omega)) ?_
    cases g3:hasX d.lives (nth s.lives i)
    · have hn:dA s d (i + 1) = dA s d i:=by simp [dA,filK,keepD,goneL,g1,g2,g3]
      simp -dsimp [h1,ne_of_lt h1]
      repeat (first|refine ⟨by omega,?_⟩|refine ⟨by simp [capMax];omega,?_⟩|refine ⟨⟨by omega,by omega⟩,?_⟩)
      exact Back_of (i + 1) [2,3,4,5,10] [(900003,900003),(128,128),(192,192),(256,256),(320,320),(900001,900001),(900004,900004),(900002,900002)] rfl rfl (by simp [hn]; rw [wrap64 (by omega) (by omega)]) (by omega) (by omega)
    · skip
      simp -dsimp [h1,ne_of_lt h1]
      repeat (first|refine ⟨by omega,?_⟩|refine ⟨by simp [capMax];omega,?_⟩|refine ⟨⟨by omega,by omega⟩,?_⟩)
      refine ACallK_of (f392_ok _ _ (by omega)) ?_
      cases g4:hasX d.dead (nth s.lives i).dot
      · have hn:dA s d (i + 1) = dA s d i ++ [(nth s.lives i)]:=by simp [dA,filK,keepD,goneL,g4,g1,g2,g3]
        simp -dsimp [h1,ne_of_lt h1]
        repeat (first|refine ⟨by omega,?_⟩|refine ⟨by simp [capMax];omega,?_⟩|refine ⟨⟨by omega,by omega⟩,?_⟩)
        exact Back_of (i + 1) [2,3,4,5,10] [(900003,8640),(128,128),(192,192),(256,256),(320,320),(900001,900001),(900004,900004),(900002,900002)] rfl rfl (by simp [hn]; rw [wrap64 (by omega) (by omega)]) (by omega) (by omega)
      · have hn:dA s d (i + 1) = dA s d i:=by simp [dA,filK,keepD,goneL,g4,g1,g2,g3]
        simp -dsimp [h1,ne_of_lt h1]
        repeat (first|refine ⟨by omega,?_⟩|refine ⟨by simp [capMax];omega,?_⟩|refine ⟨⟨by omega,by omega⟩,?_⟩)
        exact Back_of (i + 1) [2,3,4,5,10] [(900003,900003),(128,128),(192,192),(256,256),(320,320),(900001,900001),(900004,900004),(900002,900002)] rfl rfl (by simp [hn]; rw [wrap64 (by omega) (by omega)]) (by omega) (by omega)
  obtain rfl:i = s.lives.length:=by omega
  clear hi h1
  simp -dsimp
  refine AWh_loop (fun i:Nat => i ≤ d.lives.length) (fun i => mkE [(2,.box 128 0),(3,.box 192 0),(4,.box 256 0),(5,.box 320 0),(13,.c (.int .i64 i))] [(900003,.arr 0 159 6 (dB s d i).length (flat (dB s d i))),(128,.box [.c (.im s.know.length (flat s.know)),.c (.im s.tallies.length (flat s.tallies)),.c (.im s.lives.length (flat s.lives)),.c (.im s.cs.length (flat s.cs))]),(192,.box [.c (.im d.base.length (flat d.base)),.c (.im d.know.length (flat d.know)),.c (.im d.tallies.length (flat d.tallies)),.c (.im d.lives.length (flat d.lives)),.c (.im d.dead.length (flat d.dead)),.c (.im d.cs.length (flat d.cs))]),(256,.box [.nil,.nil,.nil,.nil]),(320,.box [.arr 900001,.arr 900002,.arr 900003,.arr 900004]),(900001,.arr 0 3 1 (knowMax s.know d.know).length (flat (knowMax s.know d.know))),(900004,.arr 0 72 8 (cellsU s.cs d.cs).length (flat (cellsU s.cs d.cs))),(900002,.arr 0 179 3 (talTwo s.know d.know s.tallies d.tallies).length (flat (talTwo s.know d.know s.tallies d.tallies)))]) (fun i => d.lives.length - i) 0 (Wk_to [2,3,4,5,13] [(900003,900003),(128,128),(192,192),(256,256),(320,320),(900001,900001),(900004,900004),(900002,900002)] rfl rfl (by simp [dB,insN])) (by simp) ?_
  rintro i hi
  have hal:=dB_len s d i
  refine AW_of h341 TryzT_ok (by kernel_rfl) ?_
  rcases Nat.lt_or_ge i d.lives.length with h1 | h1
  · simp -dsimp [h1,ne_of_lt h1]
    repeat (first|refine ⟨by omega,?_⟩|refine ⟨by simp [capMax];omega,?_⟩|refine ⟨⟨by omega,by omega⟩,?_⟩)
    refine ACallK_of (f17_ok _ _ hs2.1) ?_
    cases g1:knows s.know (nth d.lives i).dot
    · have hn:dB s d (i + 1) = insF liveLt (nth d.lives i) (dB s d i):=by simp [dB,insN,newB,g1]
      simp -dsimp [h1,ne_of_lt h1]
      repeat (first|refine ⟨by omega,?_⟩|refine ⟨by simp [capMax];omega,?_⟩|refine ⟨⟨by omega,by omega⟩,?_⟩)
      refine ACallK_of (f152_ok _ _ (by omega)) ?_
      simp -dsimp
      exact Back_of (i + 1) [2,3,4,5,13] [(900003,10304),(128,128),(192,192),(256,256),(320,320),(900001,900001),(900004,900004),(900002,900002)] rfl rfl (by simp [hn]; rw [wrap64 (by omega) (by omega)]) (by omega) (by omega)
    · have hn:dB s d (i + 1) = dB s d i:=by simp [dB,insN,newB,g1]
      simp -dsimp [h1,ne_of_lt h1]
      repeat (first|refine ⟨by omega,?_⟩|refine ⟨by simp [capMax];omega,?_⟩|refine ⟨⟨by omega,by omega⟩,?_⟩)
      exact Back_of (i + 1) [2,3,4,5,13] [(900003,900003),(128,128),(192,192),(256,256),(320,320),(900001,900001),(900004,900004),(900002,900002)] rfl rfl (by simp [hn]; rw [wrap64 (by omega) (by omega)]) (by omega) (by omega)
  obtain rfl:i = d.lives.length:=by omega
  clear hi h1
  simp -dsimp
  simp [doneRaw]
@[simp] def h239:Hts:={ merge:=fun _ => false,mergeF:=fun _ => false }
set_option maxHeartbeats 4000000 in
theorem f239_ok (s:GState) (d:GDelta) (hs:s.Ok) (hd:d.Ok):FnR Tryz.prog 239 [.agg [.im s.know.length (flat s.know),.im s.tallies.length (flat s.tallies),.im s.lives.length (flat s.lives),.im s.cs.length (flat s.cs)],.agg [.im d.base.length (flat d.base),.im d.know.length (flat d.know),.im d.tallies.length (flat d.tallies),.im d.lives.length (flat d.lives),.im d.dead.length (flat d.dead),.im d.cs.length (flat d.cs)]] (.tup [.agg [.ow 3 1 ((doDelta s d).1).know.length (flat ((doDelta s d).1).know),.ow 179 3 ((doDelta s d).1).tallies.length (flat ((doDelta s d).1).tallies),.ow 159 6 ((doDelta s d).1).lives.length (flat ((doDelta s d).1).lives),.ow 72 8 ((doDelta s d).1).cs.length (flat ((doDelta s d).1).cs)],.v (.int .i64 ((doDelta s d).2))]):=by
  have hs2:=hs
  have hd2:=hd
  simp only [GState.Ok] at hs2
  simp only [GDelta.Ok] at hd2
  refine FnW.of_AW TryzT_ok 0 (fn:=Tryz.f239) (by kernel_rfl) rfl (by kernel_rfl) rfl rfl rfl ?_; refine AW_of h239 TryzT_ok (by kernel_rfl) ?_
  simp -dsimp
  refine ACallK_of (f147_ok _ hs) ?_
  simp -dsimp
  refine ACallK_of (f70_ok _ hs) ?_
  rw [stateOkS_eq]
  cases ks:stateOk s
  · simp -dsimp
    simp [doDelta,ks]
  simp -dsimp
  refine ACallK_of (f71_ok _ hd) ?_
  rw [deltaOkS_eq]
  cases kd:deltaOk d
  · simp -dsimp
    simp [doDelta,ks,kd]
  simp -dsimp
  refine ACallK_of (f89_ok _ _ hd2.2.1 hs2.1) ?_
  cases k1:knowIn d.know s.know
  case true =>
    simp -dsimp
    simp [doDelta,ks,kd,k1]
  simp -dsimp
  refine ACallK_of (f89_ok _ _ hd2.1 hs2.1) ?_
  cases k2:knowIn d.base s.know
  · simp -dsimp
    simp [doDelta,ks,kd,k1,k2]
  have F:=deltaOk_F kd
  have hraw:(doneRaw s d).Ok:=doneRaw_ok hs hd ks F
  simp -dsimp
  refine ACallK_of (f341_ok s d hs hd ks F) ?_
  have hdd:doDelta s d = if tooMany (doneRaw s d) = true then (s,4) else if stateOk (doneRaw s d) = false then (s,3) else (doneRaw s d,0):=by simp [doDelta,ks,kd,k1,k2]
  rw [hdd]
  clear hdd
  generalize doneRaw s d = R at *
  by_cases h1:120 < R.tallies.length
  · have h1':(120:Int) < R.tallies.length:=by omega
    simp -dsimp [h1']
    simp [tooMany,h1]
  have h1':¬ (120:Int) < R.tallies.length:=by omega
  by_cases h2:120 < R.lives.length
  · have h2':(120:Int) < R.lives.length:=by omega
    simp -dsimp [h1',h2']
    simp [tooMany,h2]
  have h2':¬ (120:Int) < R.lives.length:=by omega
  by_cases h3:120 < R.cs.length
  · have h3':(120:Int) < R.cs.length:=by omega
    simp -dsimp [h1',h2',h3']
    simp [tooMany,h3]
  have h3':¬ (120:Int) < R.cs.length:=by omega
  have k3:tooMany R = false:=by simp [tooMany,h1,h2,h3]
  simp -dsimp [h1',h2',h3']
  refine ACallK_of (f70_ok R hraw) ?_
  rw [stateOkS_eq]
  cases k4:stateOk R
  · simp -dsimp
    simp [k3]
  · simp -dsimp
    simp [k3]
end Am
namespace Am
open Go Go.Proofs
open Cel (cells)
set_option maxRecDepth 100000
def doUnit (s:GState) (u:GUnit):GState × Int:=if u.batch = true then doDelta s u.delta else doAct s u.act
theorem doAct_okE {s:GState} {a:GAct} (hs:s.Ok) (ha:a.Ok):(doAct s a).1.Ok:=by
  unfold doAct
  split
  · exact hs
  rename_i k1
  split
  · exact hs
  split
  · exact hs
  split
  · exact hs
  split
  · exact hs
  split
  · exact hs
  · have sl:=stateOk_len (by simpa using k1)
    exact doneAct_ok hs ha sl.1 sl.2.1 sl.2.2
theorem doDelta_okE {s:GState} {d:GDelta} (hs:s.Ok) (hd:d.Ok):(doDelta s d).1.Ok:=by
  unfold doDelta
  split
  · exact hs
  rename_i k1
  split
  · exact hs
  rename_i k2
  split
  · exact hs
  split
  · exact hs
  split
  · exact hs
  split
  · exact hs
  · exact doneRaw_ok hs hd (by simpa using k1) (deltaOk_F (by simpa using k2))
theorem doUnit_ok {s:GState} {u:GUnit} (hs:s.Ok) (hu:u.Ok):(doUnit s u).1.Ok:=by
  simp only [GUnit.Ok] at hu
  unfold doUnit
  split
  · exact doDelta_okE hs hu.2
  · exact doAct_okE hs hu.1
@[simp] def h100:Hts:={  }
set_option maxHeartbeats 2000000 in
theorem f100_ok (s:GState) (u:GUnit) (hs:s.Ok) (hu:u.Ok):FnR Tryz.prog 100 [.agg [.im s.know.length (flat s.know),.im s.tallies.length (flat s.tallies),.im s.lives.length (flat s.lives),.im s.cs.length (flat s.cs)],.agg [.bool u.batch,.int .i64 u.act.dot.rep,.int .i64 u.act.dot.seq,.int .i64 u.act.time,.im u.act.knew.length (flat u.act.knew),.int .i64 u.act.kind,.str u.act.obj,.str u.act.key,.int .i64 u.act.val,.int .i64 u.act.ref.rep,.int .i64 u.act.ref.seq,.im u.delta.base.length (flat u.delta.base),.im u.delta.know.length (flat u.delta.know),.im u.delta.tallies.length (flat u.delta.tallies),.im u.delta.lives.length (flat u.delta.lives),.im u.delta.dead.length (flat u.delta.dead),.im u.delta.cs.length (flat u.delta.cs)]] (.tup [.agg [.ow 3 1 ((doUnit s u).1).know.length (flat ((doUnit s u).1).know),.ow 179 3 ((doUnit s u).1).tallies.length (flat ((doUnit s u).1).tallies),.ow 159 6 ((doUnit s u).1).lives.length (flat ((doUnit s u).1).lives),.ow 72 8 ((doUnit s u).1).cs.length (flat ((doUnit s u).1).cs)],.v (.int .i64 ((doUnit s u).2))]):=by
  have hu2:=hu
  simp only [GUnit.Ok] at hu2
  refine FnW.of_AW TryzT_ok 0 (fn:=Tryz.f100) (by kernel_rfl) rfl (by kernel_rfl) rfl rfl rfl ?_; refine AW_of h100 TryzT_ok (by kernel_rfl) ?_
  cases g:u.batch
  · simp -dsimp [g]
    refine ACallK_of (f37_ok _ _ hs hu2.1) ?_
    simp -dsimp
    simp [doUnit,g]
  · simp -dsimp [g]
    refine ACallK_of (f239_ok _ _ hs hu2.2) ?_
    simp -dsimp
    simp [doUnit,g]
end Am
namespace Am
open Go Go.Proofs
open Cel (cells)
set_option maxRecDepth 100000
def deadK (c:GState) (l:List GLive):Nat → List GDot
  | 0 => []
  | n + 1 => if hasX c.lives (nth l n) = true then deadK c l n else deadK c l n ++ [(nth l n).dot]
theorem deadK_len (c:GState) (l:List GLive):∀ n,(deadK c l n).length ≤ n
  | 0 => by simp [deadK]
  | n + 1 => by
    have:=deadK_len c l n
    simp only [deadK]; split
    · omega
    · simp; omega
def newC (p:GState) (x:GCell):Bool:=decide (cellAt p.cs x.dot < 0) || (x.gone && !(nth p.cs (cellAt p.cs x.dot).toNat).gone)
def dTal (p c:GState) (i:Nat):List GTally:=filK (more p.know c.know) [] c.tallies i
def dLivs (p c:GState) (i:Nat):List GLive:=filK (newB p) [] c.lives i
def dCels (p c:GState) (i:Nat):List GCell:=filK (newC p) [] c.cs i
def deltaRaw (p c:GState):GDelta:=⟨p.know,c.know,dTal p c c.tallies.length,dLivs p c c.lives.length,deadK c p.lives p.lives.length,dCels p c c.cs.length⟩
def noDelta:GDelta:=⟨[],[],[],[],[],[]⟩
def deltaOf (p c:GState):GDelta × Bool:=if behind p c = true then (deltaRaw p c,true) else (noDelta,false)
theorem dTal_len (p c:GState) (i:Nat):(dTal p c i).length ≤ i:=by have:=filK_len (more p.know c.know) [] c.tallies i; simpa [dTal] using this
theorem dLivs_len (p c:GState) (i:Nat):(dLivs p c i).length ≤ i:=by have:=filK_len (newB p) [] c.lives i; simpa [dLivs] using this
theorem dCels_len (p c:GState) (i:Nat):(dCels p c i).length ≤ i:=by have:=filK_len (newC p) [] c.cs i; simpa [dCels] using this
theorem behind_ok {a b:GState} (h:behind a b = true):stateOk a = true ∧ stateOk b = true:=by
  simp only [behind,Bool.and_eq_true] at h; exact ⟨h.1,h.2.1⟩
@[simp] def h338:Hts:={ merge:=fun _ => false,mergeF:=fun _ => false,dr:=fun id => if id = 3 then [{ cr:=true,mb:=[22,6] },{ mb:=[18,22,6] },{ mb:=[18,22,6] },{ wr:=[1152],cr:=true,mb:=[22,6] },{ mn:=[1152],cr:=true,mb:=[18,21,6] },{ mn:=[1152],mb:=[18,21,22,6] },{ mn:=[1152],mb:=[18,21,22,6] },{ wr:=[1408],cr:=true,mb:=[6] },{ mb:=[6] },{ mn:=[1152,1408],cr:=true,mb:=[18,21,22,25] },{ wr:=[384] }] else if id = 8 then [{},{},{},{},{},{},{},{},{},{},{}] else if id = 9 then [{ mb:=[58] },{ mb:=[58] },{},{},{},{},{},{ cr:=true },{ wr:=[3328,900003],cr:=true },{},{ wr:=[384] }] else if id = 13 then [{},{},{},{},{},{},{},{},{ cr:=true },{}] else if id = 14 then [{ mb:=[85] },{ mb:=[85] },{},{},{},{},{},{ cr:=true },{ wr:=[5056,900004],cr:=true },{},{ wr:=[384] }] else if id = 18 then [{},{},{},{},{},{},{},{ cr:=true },{}] else if id = 19 then [{ mb:=[112] },{ mb:=[112] },{},{},{},{},{},{},{ cr:=true },{ wr:=[6720,900005],cr:=true },{},{ wr:=[384] }] else if id = 23 then [{},{},{},{},{},{},{},{ cr:=true },{}] else if id = 25 then [{ mb:=[156] },{ mb:=[156] },{},{},{},{},{},{ cr:=true },{ wr:=[9600,900006],cr:=true },{},{ wr:=[384] }] else [] }
set_option maxHeartbeats 8000000 in
theorem f338_ok (p c:GState) (hp:p.Ok) (hc:c.Ok):FnR Tryz.prog 338 [.agg [.im p.know.length (flat p.know),.im p.tallies.length (flat p.tallies),.im p.lives.length (flat p.lives),.im p.cs.length (flat p.cs)],.agg [.im c.know.length (flat c.know),.im c.tallies.length (flat c.tallies),.im c.lives.length (flat c.lives),.im c.cs.length (flat c.cs)]] (.tup [.agg [.ow 3 1 ((deltaOf p c).1).base.length (flat ((deltaOf p c).1).base),.ow 3 1 ((deltaOf p c).1).know.length (flat ((deltaOf p c).1).know),.ow 179 3 ((deltaOf p c).1).tallies.length (flat ((deltaOf p c).1).tallies),.ow 159 6 ((deltaOf p c).1).lives.length (flat ((deltaOf p c).1).lives),.ow 29 2 ((deltaOf p c).1).dead.length (flat ((deltaOf p c).1).dead),.ow 72 8 ((deltaOf p c).1).cs.length (flat ((deltaOf p c).1).cs)],.v (.bool ((deltaOf p c).2))]):=by
  refine FnW.of_AW TryzT_ok 0 (fn:=Tryz.f338) (by kernel_rfl) rfl (by kernel_rfl) rfl rfl rfl ?_; refine AW_of h338 TryzT_ok (by kernel_rfl) ?_
  simp -dsimp
  refine ACallK_of (f26_ok _ _ hp hc) ?_
  cases g:behind p c
  · simp -dsimp
    simp [deltaOf,g,noDelta]
  obtain ⟨okp,okc⟩:=behind_ok g
  have lp:=stateOk_len okp
  have lc:=stateOk_len okc
  have kp:=stateOk_know okp
  have kc:=stateOk_know okc
  have hr:=stateOk_reps okc
  simp only [GState.Ok] at hp hc
  simp -dsimp
  repeat (first|refine ⟨by omega,?_⟩|refine ⟨by simp [capMax];omega,?_⟩|refine ⟨⟨by omega,by omega⟩,?_⟩)
  refine AWh_loop (fun i:Nat => i ≤ c.tallies.length) (fun i => mkE [(2,.box 128 0),(3,.box 192 0),(4,.box 256 0),(6,.box 384 0),(7,.c (.int .i64 i))] [(900003,.arr 0 179 3 (dTal p c i).length (flat (dTal p c i))),(128,.box [.c (.im p.know.length (flat p.know)),.c (.im p.tallies.length (flat p.tallies)),.c (.im p.lives.length (flat p.lives)),.c (.im p.cs.length (flat p.cs))]),(192,.box [.c (.im c.know.length (flat c.know)),.c (.im c.tallies.length (flat c.tallies)),.c (.im c.lives.length (flat c.lives)),.c (.im c.cs.length (flat c.cs))]),(256,.box [.nil,.nil,.nil,.nil,.nil,.nil]),(384,.box [.arr 900001,.arr 900002,.arr 900003,.nil,.nil,.nil]),(900001,.arr 0 3 1 p.know.length (flat p.know)),(900002,.arr 0 3 1 c.know.length (flat c.know))]) (fun i => c.tallies.length - i) 0 (Wk_toA [2,3,4,6,7] [(128,128),(192,192),(256,256),(384,384),(900001,1344),(900002,1600)] [.cell 384 2 900003 179 3] rfl rfl (by simp [dTal,dLivs,dCels,deadK,filK])) (by simp) ?_
  rintro i hi
  have hal:=dTal_len p c i
  refine AW_of h338 TryzT_ok (by kernel_rfl) ?_
  rcases Nat.lt_or_ge i c.tallies.length with h1 | h1
  · have hri:=hr i h1
    have q1:(nth c.tallies i).rep.toNat < c.know.length:=by omega
    have q2:(nth c.tallies i).rep.toNat < p.know.length:=by omega
    by_cases g1:nth p.know (nth c.tallies i).rep.toNat < nth c.know (nth c.tallies i).rep.toNat
    · have hs:dTal p c (i + 1) = dTal p c i ++ [(nth c.tallies i)]:=by simp [dTal,filK,more,g1]
      simp -dsimp [h1,ne_of_lt h1,q1,q2,ne_of_lt q1,ne_of_lt q2,g1]
      repeat (first|refine ⟨by omega,?_⟩|refine ⟨by simp [capMax];omega,?_⟩|refine ⟨⟨by omega,by omega⟩,?_⟩)
      exact Back_of (i + 1) [2,3,4,6,7] [(900003,3776),(128,128),(192,192),(256,256),(384,384),(900001,900001),(900002,900002)] rfl rfl (by simp [hs]; rw [wrap64 (by omega) (by omega)]) (by omega) (by omega)
    · have hs:dTal p c (i + 1) = dTal p c i:=by simp [dTal,filK,more,g1]
      simp -dsimp [h1,ne_of_lt h1,q1,q2,ne_of_lt q1,ne_of_lt q2,g1]
      repeat (first|refine ⟨by omega,?_⟩|refine ⟨by simp [capMax];omega,?_⟩|refine ⟨⟨by omega,by omega⟩,?_⟩)
      exact Back_of (i + 1) [2,3,4,6,7] [(900003,900003),(128,128),(192,192),(256,256),(384,384),(900001,900001),(900002,900002)] rfl rfl (by simp [hs]; rw [wrap64 (by omega) (by omega)]) (by omega) (by omega)
  obtain rfl:i = c.tallies.length:=by omega
  clear hi h1
  simp -dsimp
  refine AWh_loop (fun i:Nat => i ≤ c.lives.length) (fun i => mkE [(2,.box 128 0),(3,.box 192 0),(4,.box 256 0),(6,.box 384 0),(9,.c (.int .i64 i))] [(900004,.arr 0 159 6 (dLivs p c i).length (flat (dLivs p c i))),(128,.box [.c (.im p.know.length (flat p.know)),.c (.im p.tallies.length (flat p.tallies)),.c (.im p.lives.length (flat p.lives)),.c (.im p.cs.length (flat p.cs))]),(192,.box [.c (.im c.know.length (flat c.know)),.c (.im c.tallies.length (flat c.tallies)),.c (.im c.lives.length (flat c.lives)),.c (.im c.cs.length (flat c.cs))]),(256,.box [.nil,.nil,.nil,.nil,.nil,.nil]),(384,.box [.arr 900001,.arr 900002,.arr 900003,.arr 900004,.nil,.nil]),(900001,.arr 0 3 1 p.know.length (flat p.know)),(900002,.arr 0 3 1 c.know.length (flat c.know)),(900003,.arr 0 179 3 (dTal p c c.tallies.length).length (flat (dTal p c c.tallies.length)))]) (fun i => c.lives.length - i) 0 (Wk_toA [2,3,4,6,9] [(128,128),(192,192),(256,256),(384,384),(900001,900001),(900002,900002),(900003,900003)] [.cell 384 3 900004 159 6] rfl rfl (by simp [dTal,dLivs,dCels,deadK,filK])) (by simp) ?_
  rintro i hi
  have hal:=dLivs_len p c i
  refine AW_of h338 TryzT_ok (by kernel_rfl) ?_
  rcases Nat.lt_or_ge i c.lives.length with h1 | h1
  · simp -dsimp [h1,ne_of_lt h1]
    repeat (first|refine ⟨by omega,?_⟩|refine ⟨by simp [capMax];omega,?_⟩|refine ⟨⟨by omega,by omega⟩,?_⟩)
    refine ACallK_of (f17_ok _ _ hp.1) ?_
    cases g1:knows p.know (nth c.lives i).dot
    · have hs:dLivs p c (i + 1) = dLivs p c i ++ [(nth c.lives i)]:=by simp [dLivs,filK,newB,g1]
      simp -dsimp [h1,ne_of_lt h1]
      repeat (first|refine ⟨by omega,?_⟩|refine ⟨by simp [capMax];omega,?_⟩|refine ⟨⟨by omega,by omega⟩,?_⟩)
      exact Back_of (i + 1) [2,3,4,6,9] [(900004,5504),(128,128),(192,192),(256,256),(384,384),(900001,900001),(900002,900002),(900003,900003)] rfl rfl (by simp [hs]; rw [wrap64 (by omega) (by omega)]) (by omega) (by omega)
    · have hs:dLivs p c (i + 1) = dLivs p c i:=by simp [dLivs,filK,newB,g1]
      simp -dsimp [h1,ne_of_lt h1]
      repeat (first|refine ⟨by omega,?_⟩|refine ⟨by simp [capMax];omega,?_⟩|refine ⟨⟨by omega,by omega⟩,?_⟩)
      exact Back_of (i + 1) [2,3,4,6,9] [(900004,900004),(128,128),(192,192),(256,256),(384,384),(900001,900001),(900002,900002),(900003,900003)] rfl rfl (by simp [hs]; rw [wrap64 (by omega) (by omega)]) (by omega) (by omega)
  obtain rfl:i = c.lives.length:=by omega
  clear hi h1
  simp -dsimp
  refine AWh_loop (fun i:Nat => i ≤ p.lives.length) (fun i => mkE [(2,.box 128 0),(3,.box 192 0),(4,.box 256 0),(6,.box 384 0),(10,.c (.int .i64 i))] [(900005,.arr 0 29 2 (deadK c p.lives i).length (flat (deadK c p.lives i))),(128,.box [.c (.im p.know.length (flat p.know)),.c (.im p.tallies.length (flat p.tallies)),.c (.im p.lives.length (flat p.lives)),.c (.im p.cs.length (flat p.cs))]),(192,.box [.c (.im c.know.length (flat c.know)),.c (.im c.tallies.length (flat c.tallies)),.c (.im c.lives.length (flat c.lives)),.c (.im c.cs.length (flat c.cs))]),(256,.box [.nil,.nil,.nil,.nil,.nil,.nil]),(384,.box [.arr 900001,.arr 900002,.arr 900003,.arr 900004,.arr 900005,.nil]),(900001,.arr 0 3 1 p.know.length (flat p.know)),(900002,.arr 0 3 1 c.know.length (flat c.know)),(900003,.arr 0 179 3 (dTal p c c.tallies.length).length (flat (dTal p c c.tallies.length))),(900004,.arr 0 159 6 (dLivs p c c.lives.length).length (flat (dLivs p c c.lives.length)))]) (fun i => p.lives.length - i) 0 (Wk_toA [2,3,4,6,10] [(128,128),(192,192),(256,256),(384,384),(900001,900001),(900002,900002),(900003,900003),(900004,900004)] [.cell 384 4 900005 29 2] rfl rfl (by simp [dTal,dLivs,dCels,deadK,filK])) (by simp) ?_
  rintro i hi
  have hal:=deadK_len c p.lives i
  refine AW_of h338 TryzT_ok (by kernel_rfl) ?_
  rcases Nat.lt_or_ge i p.lives.length with h1 | h1
  · simp -dsimp [h1,ne_of_lt h1]
    repeat (first|refine ⟨by omega,?_⟩|refine ⟨by simp [capMax];omega,?_⟩|refine ⟨⟨by omega,by omega⟩,?_⟩)
    refine ACallK_of (f151_ok _ _ hc.2.2.2.1) ?_
    cases g1:hasX c.lives (nth p.lives i)
    · have hs:deadK c p.lives (i + 1) = deadK c p.lives i ++ [(nth p.lives i).dot]:=by simp [deadK,g1]
      simp -dsimp [h1,ne_of_lt h1]
      repeat (first|refine ⟨by omega,?_⟩|refine ⟨by simp [capMax];omega,?_⟩|refine ⟨⟨by omega,by omega⟩,?_⟩)
      exact Back_of (i + 1) [2,3,4,6,10] [(900005,7232),(128,128),(192,192),(256,256),(384,384),(900001,900001),(900002,900002),(900003,900003),(900004,900004)] rfl rfl (by simp [hs]; rw [wrap64 (by omega) (by omega)]) (by omega) (by omega)
    · have hs:deadK c p.lives (i + 1) = deadK c p.lives i:=by simp [deadK,g1]
      simp -dsimp [h1,ne_of_lt h1]
      repeat (first|refine ⟨by omega,?_⟩|refine ⟨by simp [capMax];omega,?_⟩|refine ⟨⟨by omega,by omega⟩,?_⟩)
      exact Back_of (i + 1) [2,3,4,6,10] [(900005,900005),(128,128),(192,192),(256,256),(384,384),(900001,900001),(900002,900002),(900003,900003),(900004,900004)] rfl rfl (by simp [hs]; rw [wrap64 (by omega) (by omega)]) (by omega) (by omega)
  obtain rfl:i = p.lives.length:=by omega
  clear hi h1
  simp -dsimp
  refine AWh_loop (fun i:Nat => i ≤ c.cs.length) (fun i => mkE [(2,.box 128 0),(3,.box 192 0),(4,.box 256 0),(6,.box 384 0),(11,.c (.int .i64 i))] [(900006,.arr 0 72 8 (dCels p c i).length (flat (dCels p c i))),(128,.box [.c (.im p.know.length (flat p.know)),.c (.im p.tallies.length (flat p.tallies)),.c (.im p.lives.length (flat p.lives)),.c (.im p.cs.length (flat p.cs))]),(192,.box [.c (.im c.know.length (flat c.know)),.c (.im c.tallies.length (flat c.tallies)),.c (.im c.lives.length (flat c.lives)),.c (.im c.cs.length (flat c.cs))]),(256,.box [.nil,.nil,.nil,.nil,.nil,.nil]),(384,.box [.arr 900001,.arr 900002,.arr 900003,.arr 900004,.arr 900005,.arr 900006]),(900001,.arr 0 3 1 p.know.length (flat p.know)),(900002,.arr 0 3 1 c.know.length (flat c.know)),(900003,.arr 0 179 3 (dTal p c c.tallies.length).length (flat (dTal p c c.tallies.length))),(900004,.arr 0 159 6 (dLivs p c c.lives.length).length (flat (dLivs p c c.lives.length))),(900005,.arr 0 29 2 (deadK c p.lives p.lives.length).length (flat (deadK c p.lives p.lives.length)))]) (fun i => c.cs.length - i) 0 (Wk_toA [2,3,4,6,11] [(128,128),(192,192),(256,256),(384,384),(900001,900001),(900002,900002),(900003,900003),(900004,900004),(900005,900005)] [.cell 384 5 900006 72 8] rfl rfl (by simp [dTal,dLivs,dCels,deadK,filK])) (by simp) ?_
  rintro i hi
  have hal:=dCels_len p c i
  refine AW_of h338 TryzT_ok (by kernel_rfl) ?_
  rcases Nat.lt_or_ge i c.cs.length with h1 | h1
  · simp -dsimp [h1,ne_of_lt h1]
    repeat (first|refine ⟨by omega,?_⟩|refine ⟨by simp [capMax];omega,?_⟩|refine ⟨⟨by omega,by omega⟩,?_⟩)
    refine ACallK_of (f45_ok _ _ hp.2.2.2.2.2.1) ?_
    rcases cellAt_cases p.cs (nth c.cs i).dot with g1 | ⟨j,hj,g1⟩
    · have hs:dCels p c (i + 1) = dCels p c i ++ [(nth c.cs i)]:=by simp [dCels,filK,newC,g1]
      rw [g1]
      simp -dsimp [h1,ne_of_lt h1]
      repeat (first|refine ⟨by omega,?_⟩|refine ⟨by simp [capMax];omega,?_⟩|refine ⟨⟨by omega,by omega⟩,?_⟩)
      exact Back_of (i + 1) [2,3,4,6,11] [(900006,10048),(128,128),(192,192),(256,256),(384,384),(900001,900001),(900002,900002),(900003,900003),(900004,900004),(900005,900005)] rfl rfl (by simp [hs]; rw [wrap64 (by omega) (by omega)]) (by omega) (by omega)
    · rw [g1]
      have jn:¬ (j:Int) < 0:=by omega
      cases g2:(nth c.cs i).gone
      · have hs:dCels p c (i + 1) = dCels p c i:=by simp [dCels,filK,newC,g1,g2,jn]
        simp -dsimp [h1,ne_of_lt h1,jn,hj,ne_of_lt hj,g2]
        repeat (first|refine ⟨by omega,?_⟩|refine ⟨by simp [capMax];omega,?_⟩|refine ⟨⟨by omega,by omega⟩,?_⟩)
        exact Back_of (i + 1) [2,3,4,6,11] [(900006,900006),(128,128),(192,192),(256,256),(384,384),(900001,900001),(900002,900002),(900003,900003),(900004,900004),(900005,900005)] rfl rfl (by simp [hs]; rw [wrap64 (by omega) (by omega)]) (by omega) (by omega)
      · cases g3:(nth p.cs j).gone
        · have he:(nth c.cs i) = ⟨(nth c.cs i).obj,(nth c.cs i).dot,(nth c.cs i).time,(nth c.cs i).ref,(nth c.cs i).val,true⟩:=by rw [← g2]
          have hs:dCels p c (i + 1) = dCels p c i ++ [⟨(nth c.cs i).obj,(nth c.cs i).dot,(nth c.cs i).time,(nth c.cs i).ref,(nth c.cs i).val,true⟩]:=by rw [← he]; simp [dCels,filK,newC,g1,g2,g3,jn]
          clear he
          simp -dsimp [h1,ne_of_lt h1,jn,hj,ne_of_lt hj,g2,g3]
          repeat (first|refine ⟨by omega,?_⟩|refine ⟨by simp [capMax];omega,?_⟩|refine ⟨⟨by omega,by omega⟩,?_⟩)
          exact Back_of (i + 1) [2,3,4,6,11] [(900006,10048),(128,128),(192,192),(256,256),(384,384),(900001,900001),(900002,900002),(900003,900003),(900004,900004),(900005,900005)] rfl rfl (by simp [hs]; rw [wrap64 (by omega) (by omega)]) (by omega) (by omega)
        · have hs:dCels p c (i + 1) = dCels p c i:=by simp [dCels,filK,newC,g1,g2,g3,jn]
          simp -dsimp [h1,ne_of_lt h1,jn,hj,ne_of_lt hj,g2,g3]
          repeat (first|refine ⟨by omega,?_⟩|refine ⟨by simp [capMax];omega,?_⟩|refine ⟨⟨by omega,by omega⟩,?_⟩)
          exact Back_of (i + 1) [2,3,4,6,11] [(900006,900006),(128,128),(192,192),(256,256),(384,384),(900001,900001),(900002,900002),(900003,900003),(900004,900004),(900005,900005)] rfl rfl (by simp [hs]; rw [wrap64 (by omega) (by omega)]) (by omega) (by omega)
  obtain rfl:i = c.cs.length:=by omega
  clear hi h1
  simp -dsimp
  simp [deltaOf,g,deltaRaw]
end Am
