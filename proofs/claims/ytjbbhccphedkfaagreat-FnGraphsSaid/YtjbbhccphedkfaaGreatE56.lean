/- States put together: the program's. No condition. -/
import Derived.Test.YtjbbhccphedkfaaGreatT
import Derived.Test.YtjbbhccphedkfaaGreatD
import Derived.Test.YtjbbhccphedkfaaGreatE53
import Derived.Test.YtjbbhccphedkfaaGreatE2
import Derived.Test.YtjbbhccphedkfaaGreatY2
import Derived.Test.YtjbbhccphedkfaaGreatAm31
import Derived.Test.YtjbbhccphedkfaaGreatAm32
import Derived.Test.YtjbbhccphedkfaaGreatAm29
set_option linter.unusedSimpArgs false
set_option linter.unusedVariables false
set_option linter.unnecessarySimpa false
set_option linter.unusedSectionVars false
namespace Am
open Go Go.Proofs Go.Sort
open Cel (cells)
set_option maxRecDepth 100000
theorem swo_of {α:Type} {lt:α → α → Bool} (hL:Lt lt) (hn:∀ x y z,lt x y = false → lt y z = false → lt x z = false):SWO lt where
  irrefl x:=by
    cases h:lt x x
    · rfl
    · have:=hL.asym x x h; rw [h] at this; cases this
  trans x y z:=hL.trans x y z
  ntrans:=hn
theorem before_ntrans {a b c:GDot} (h:before a b = false) (h':before b c = false):before a c = false:=by
  simp only [before,Bool.or_eq_false_iff,Bool.and_eq_false_iff,decide_eq_false_iff_not] at *
  omega
theorem ltOf_cell:Go.Proofs.ltOf (fun x y:GCell => cmpDot x.dot y.dot) = cellLt:=by
  funext x y; simp only [ltOf,cellLt,before_cmp]
theorem ltOf_live:Go.Proofs.ltOf (fun x y:GLive => cmpDot x.dot y.dot) = liveLt:=by
  funext x y; simp only [ltOf,liveLt,before_cmp]
theorem ltOf_tally:Go.Proofs.ltOf cmpTally = tallyLt:=by
  funext x y; simp only [ltOf,tallyLt_cmp]
theorem strLt_ntrans {a b c:ByteArray} (h:strLt a b = false) (h':strLt b c = false):strLt a c = false:=by
  cases e:strLt a c
  · rfl
  · exfalso
    cases e2:strLt c b
    · have:=strLt_tri h' e2
      rw [this] at h; rw [h] at e; cases e
    · have:=strLt_trans e e2
      rw [h] at this; cases this
theorem tallyLt_ntrans (x y z:GTally) (h:tallyLt x y = false) (h':tallyLt y z = false):tallyLt x z = false:=by
  simp only [tallyLt,Bool.or_eq_false_iff,Bool.and_eq_false_iff,decide_eq_false_iff_not] at *
  refine ⟨strLt_ntrans h.1 h'.1,?_⟩
  by_cases e:x.obj = z.obj
  · right
    have e1:x.obj = y.obj:=by
      cases e2:strLt y.obj x.obj
      · exact strLt_tri h.1 e2
      · rw [e] at e2; rw [h'.1] at e2; cases e2
    rcases h.2 with h2 | h2
    · exact absurd e1 h2
    · rcases h'.2 with h3 | h3
      · exact absurd (e1.symm.trans e) h3
      · omega
  · exact .inl e
theorem swo_cell:SWO (Go.Proofs.ltOf (fun x y:GCell => cmpDot x.dot y.dot)):=by
  rw [ltOf_cell]; exact swo_of cellLt_Lt fun x y z => before_ntrans
theorem swo_live:SWO (Go.Proofs.ltOf (fun x y:GLive => cmpDot x.dot y.dot)):=by
  rw [ltOf_live]; exact swo_of liveLt_Lt fun x y z => before_ntrans
theorem swo_tally:SWO (Go.Proofs.ltOf cmpTally):=by
  rw [ltOf_tally]; exact swo_of tallyLt_Lt tallyLt_ntrans
@[simp] def h195:Hts:={  }
theorem f195_ok (x y:GCell):FnR Tryz.prog 195 [.agg [.str x.obj,.int .i64 x.dot.rep,.int .i64 x.dot.seq,.int .i64 x.time,.int .i64 x.ref.rep,.int .i64 x.ref.seq,.int .i64 x.val,.bool x.gone],.agg [.str y.obj,.int .i64 y.dot.rep,.int .i64 y.dot.seq,.int .i64 y.time,.int .i64 y.ref.rep,.int .i64 y.ref.seq,.int .i64 y.val,.bool y.gone]] (.v (.int .i64 (cmpDot x.dot y.dot))):=by
  refine FnW.of_AW TryzT_ok 0 (fn:=Tryz.f195) (by kernel_rfl) rfl (by kernel_rfl) rfl rfl rfl ?_; refine AW_of h195 TryzT_ok (by kernel_rfl) ?_
  simp -dsimp
  refine ACallK_of (f114_ok _ _) ?_
  simp -dsimp
@[simp] def h193:Hts:={  }
theorem f193_ok (x y:GLive):FnR Tryz.prog 193 [.agg [.bool x.map,.str x.obj,.str x.key,.int .i64 x.val,.int .i64 x.dot.rep,.int .i64 x.dot.seq],.agg [.bool y.map,.str y.obj,.str y.key,.int .i64 y.val,.int .i64 y.dot.rep,.int .i64 y.dot.seq]] (.v (.int .i64 (cmpDot x.dot y.dot))):=by
  refine FnW.of_AW TryzT_ok 0 (fn:=Tryz.f193) (by kernel_rfl) rfl (by kernel_rfl) rfl rfl rfl ?_; refine AW_of h193 TryzT_ok (by kernel_rfl) ?_
  simp -dsimp
  refine ACallK_of (f114_ok _ _) ?_
  simp -dsimp
@[simp] def h149:Hts:={ lend:=fun _ => [.lend] }
theorem f149_ok (xs ys:List GLive) (hx:xs.length ≤ 1073741824) (hs:ys.Pairwise (fun a b => liveLt a b = true)) (hp:ys.Perm xs):FnW Tryz.prog 149 [.v (.ow 98 6 xs.length (flat xs))] (.tup []) [.v (.ow 98 6 ys.length (flat ys))]:=by
  refine FnW.of_AW TryzT_ok 1 (fn:=Tryz.f149) (by kernel_rfl) rfl (by kernel_rfl) rfl rfl rfl ?_; refine AW_of h149 TryzT_ok (by kernel_rfl) ?_
  simp -dsimp
  refine ACallW_go ?_
  refine ACallC_go (fun us => f192_ok (fun x y:GLive => cmpDot x.dot y.dot) swo_live (enters_of Tryz.func193 (by kernel_rfl) rfl) f193_ok xs ys hx (fun zs h1 h2 => sorted_uniq liveLt_Lt hs (h1.trans hp.symm) (by rw [← ltOf_live]; exact h2))) ?_
  simp -dsimp
@[simp] def h146:Hts:={ merge:=fun _ => false,lend:=fun f => if f = 190 then [.lend] else [] }
set_option maxHeartbeats 2000000 in
theorem f146_ok (a b ys:List GTally) (p:Int → Bool) (g:Nat) (hgf:g ≠ 190) (c1 c2:List PV) (ha:a.length ≤ 400000000) (hb:b.length ≤ 400000000) (hg1:∀ i:Nat,i < a.length → FnR Tryz.prog g [.v (.int .i64 ((nth a i).rep)),.pc c1,.pc c2] (.v (.bool (p (nth a i).rep))))
    (hg2:∀ i:Nat,i < b.length → FnR Tryz.prog g [.v (.int .i64 ((nth b i).rep)),.pc c1,.pc c2] (.v (.bool (p (nth b i).rep))))
    (hs:ys.Pairwise (fun a b => tallyLt a b = true)) (hp:ys.Perm (filK (fun t => p t.rep) (filK (fun t => !p t.rep) [] a a.length) b b.length)) :
    FnR Tryz.prog 146 [.v (.im a.length (flat a)),.v (.im b.length (flat b)),.fn g [.pc c1,.pc c2]] (.v (.ow 104 3 ys.length (flat ys))):=by
  refine FnW.of_AW TryzT_ok 0 (fn:=Tryz.f146) (by kernel_rfl) rfl (by kernel_rfl) rfl rfl rfl ?_; refine AW_of h146 TryzT_ok (by kernel_rfl) ?_
  simp -dsimp
  refine AWh_loop (fun i:Nat => i ≤ a.length) (fun i => mkE [(1,.c (.im b.length (flat b))),(2,.fn g [.pc c1 0,.pc c2 0]),(7,.arr 768),(13,.c (.im a.length (flat a))),(14,.c (.int .i64 a.length)),(15,.c (.int .i64 i))] [(768,.arr 0 104 3 (filK (fun t => !p t.rep) [] a i).length (flat (filK (fun t => !p t.rep) [] a i)))]) (fun i => a.length - i) 0 (Wk_to [1,2,7,13,14,15] [(768,768)] rfl rfl (by simp [filK])) (by simp) ?_
  rintro i hi
  have hal:=filK_len (fun t:GTally => !p t.rep) [] a i
  simp only [List.length_nil] at hal
  refine AW_of h146 TryzT_ok (by kernel_rfl) ?_
  rcases Nat.lt_or_ge i a.length with h1 | h1
  · simp -dsimp [h1,ne_of_lt h1,hgf]
    repeat (first|refine ⟨by omega,?_⟩|refine ⟨by simp [capMax];omega,?_⟩|refine ⟨⟨by omega,by omega⟩,?_⟩)
    refine ACallK_of (hg1 i h1) ?_
    cases gp:p (nth a i).rep
    · have hs:filK (fun t => !p t.rep) [] a (i + 1) = (filK (fun t => !p t.rep) [] a i) ++ [nth a i]:=by simp [filK,gp]
      simp -dsimp [h1,ne_of_lt h1]
      repeat (first|refine ⟨by omega,?_⟩|refine ⟨by simp [capMax];omega,?_⟩|refine ⟨⟨by omega,by omega⟩,?_⟩)
      exact Back_of (i + 1) [1,2,7,13,14,15] [(768,1728)] rfl rfl (by simp [hs]; rw [wrap64 (by omega) (by omega)]) (by omega) (by omega)
    · have hs:filK (fun t => !p t.rep) [] a (i + 1) = (filK (fun t => !p t.rep) [] a i):=by simp [filK,gp]
      simp -dsimp [h1,ne_of_lt h1]
      repeat (first|refine ⟨by omega,?_⟩|refine ⟨by simp [capMax];omega,?_⟩|refine ⟨⟨by omega,by omega⟩,?_⟩)
      exact Back_of (i + 1) [1,2,7,13,14,15] [(768,768)] rfl rfl (by simp [hs]; rw [wrap64 (by omega) (by omega)]) (by omega) (by omega)
  · obtain rfl:i = a.length:=by omega
    clear hi h1
    simp -dsimp
    refine AWh_loop (fun i:Nat => i ≤ b.length) (fun i => mkE [(2,.fn g [.pc c1 0,.pc c2 0]),(7,.arr 768),(29,.c (.im b.length (flat b))),(30,.c (.int .i64 b.length)),(31,.c (.int .i64 i))] [(768,.arr 0 104 3 (filK (fun t => p t.rep) (filK (fun t => !p t.rep) [] a a.length) b i).length (flat (filK (fun t => p t.rep) (filK (fun t => !p t.rep) [] a a.length) b i)))]) (fun i => b.length - i) 0 (Wk_to [2,7,29,30,31] [(768,768)] rfl rfl (by simp [filK])) (by simp) ?_
    rintro i hi
    have hal2:=filK_len (fun t:GTally => p t.rep) (filK (fun t => !p t.rep) [] a a.length) b i
    refine AW_of h146 TryzT_ok (by kernel_rfl) ?_
    rcases Nat.lt_or_ge i b.length with h1 | h1
    · simp -dsimp [h1,ne_of_lt h1,hgf]
      repeat (first|refine ⟨by omega,?_⟩|refine ⟨by simp [capMax];omega,?_⟩|refine ⟨⟨by omega,by omega⟩,?_⟩)
      refine ACallK_of (hg2 i h1) ?_
      cases gp:p (nth b i).rep
      · have hs:filK (fun t => p t.rep) (filK (fun t => !p t.rep) [] a a.length) b (i + 1) = (filK (fun t => p t.rep) (filK (fun t => !p t.rep) [] a a.length) b i):=by simp [filK,gp]
        simp -dsimp [h1,ne_of_lt h1]
        repeat (first|refine ⟨by omega,?_⟩|refine ⟨by simp [capMax];omega,?_⟩|refine ⟨⟨by omega,by omega⟩,?_⟩)
        exact Back_of (i + 1) [2,7,29,30,31] [(768,768)] rfl rfl (by simp [hs]; rw [wrap64 (by omega) (by omega)]) (by omega) (by omega)
      · have hs:filK (fun t => p t.rep) (filK (fun t => !p t.rep) [] a a.length) b (i + 1) = (filK (fun t => p t.rep) (filK (fun t => !p t.rep) [] a a.length) b i) ++ [nth b i]:=by simp [filK,gp]
        simp -dsimp [h1,ne_of_lt h1]
        repeat (first|refine ⟨by omega,?_⟩|refine ⟨by simp [capMax];omega,?_⟩|refine ⟨⟨by omega,by omega⟩,?_⟩)
        exact Back_of (i + 1) [2,7,29,30,31] [(768,2688)] rfl rfl (by simp [hs]; rw [wrap64 (by omega) (by omega)]) (by omega) (by omega)
    · obtain rfl:i = b.length:=by omega
      clear hi h1
      simp -dsimp
      refine ACallW_go ?_
      refine ACallC_go (fun us => f190_ok cmpTally swo_tally (enters_of Tryz.func158 (by kernel_rfl) rfl) f158_ok (filK (fun t => p t.rep) (filK (fun t => !p t.rep) [] a a.length) b b.length) ys (by omega) (fun zs h1 h2 => sorted_uniq tallyLt_Lt hs (h1.trans hp.symm) (by rw [← ltOf_tally]; exact h2))) ?_
      simp -dsimp
@[simp] def h150:Hts:={ merge:=fun _ => false,lend:=fun f => if f = 194 then [.lend] else [] }
set_option maxHeartbeats 2000000 in
theorem f150_ok (a b:List GCell) (ha:a.length ≤ 400000000) (hb:b.length ≤ 400000000) (sa:SortC a) (sb:SortC b):FnR Tryz.prog 150 [.v (.im a.length (flat a)),.v (.im b.length (flat b))] (.v (.ow 100 8 (cellsU a b).length (flat (cellsU a b)))):=by
  refine FnW.of_AW TryzT_ok 0 (fn:=Tryz.f150) (by kernel_rfl) rfl (by kernel_rfl) rfl rfl rfl ?_; refine AW_of h150 TryzT_ok (by kernel_rfl) ?_
  simp -dsimp
  refine ⟨by simp [capMax]; omega,?_⟩
  refine AWh_loop (fun i:Nat => i ≤ a.length) (fun i => mkE [(1,.c (.im b.length (flat b))),(5,.arr 960),(6,.mp 1024),(17,.c (.im a.length (flat a))),(18,.c (.int .i64 a.length)),(19,.c (.int .i64 i))] [(960,.arr 0 100 8 a.length (flat a)),(1024,.mp (.m (putsM a i)))]) (fun i => a.length - i) 0 (Wk_to [1,5,6,17,18,19] [(960,960),(1024,1024)] rfl rfl (by simp [putsM])) (by simp) ?_
  rintro i hi
  refine AW_of h150 TryzT_ok (by kernel_rfl) ?_
  rcases Nat.lt_or_ge i a.length with h1 | h1
  · simp -dsimp [h1,ne_of_lt h1]
    repeat (first|refine ⟨by omega,?_⟩|refine ⟨by simp [capMax];omega,?_⟩|refine ⟨⟨by omega,by omega⟩,?_⟩)
    exact Back_of (i + 1) [1,5,6,17,18,19] [(960,960),(1024,1024)] rfl rfl (by simp [putsM]; rw [wrap64 (by omega) (by omega)]) (by omega) (by omega)
  obtain rfl:i = a.length:=by omega
  simp -dsimp
  clear hi h1
  refine AWh_loop (fun i:Nat => i ≤ b.length) (fun i => mkE [(5,.arr 960),(6,.mp 1024),(29,.c (.im b.length (flat b))),(30,.c (.int .i64 b.length)),(31,.c (.int .i64 i))] [(960,.arr 0 100 8 (cellsA a b i).length (flat (cellsA a b i))),(1024,.mp (.m (putsM a a.length)))]) (fun i => b.length - i) 0 (Wk_to [5,6,29,30,31] [(960,960),(1024,1024)] rfl rfl (by simp [cellsA])) (by simp) ?_
  rintro i hi
  have hal:=cellsA_len a b i
  refine AW_of h150 TryzT_ok (by kernel_rfl) ?_
  rcases Nat.lt_or_ge i b.length with h1 | h1
  · cases hg:getM (putsM a a.length) (nth b i).dot.rep (nth b i).dot.seq with
    | none =>
      have hno:hasDot a (nth b i).dot = false:=hasDot_no fun j hj h => by have:=getM_none hg j hj; exact this h
      have hs:cellsA a b (i + 1) = cellsA a b i ++ [nth b i]:=by simp [cellsA,hno]
      simp -dsimp [h1,ne_of_lt h1,hg]
      repeat (first|refine ⟨by omega,?_⟩|refine ⟨by simp [capMax];omega,?_⟩|refine ⟨⟨by omega,by omega⟩,?_⟩)
      exact Back_of (i + 1) [5,6,29,30,31] [(960,3776),(1024,1024)] rfl rfl (by simp [hs]; rw [wrap64 (by omega) (by omega)]) (by omega) (by omega)
    | some k =>
      obtain ⟨j,hj,rfl,hd⟩:=getM_some hg
      have hyes:hasDot a (nth b i).dot = true:=hasDot_at hj hd
      have hs:cellsA a b (i + 1) = goneAt (cellsA a b i) (nth b i).dot (nth b i).gone:=by simp [cellsA,hyes]
      obtain ⟨hj2,hd2⟩:=cellsA_at (b:=b) (n:=i) hj
      have hgs:=gone_set (cellsA_nodup sa sb hi) hj2 (nth b i).gone
      rw [hd2,hd] at hgs
      cases hg2:(nth (cellsA a b i) j).gone
      · simp -dsimp [h1,ne_of_lt h1,hg,hj2,ne_of_lt hj2,hg2]
        repeat (first|refine ⟨by omega,?_⟩|refine ⟨by simp [capMax];omega,?_⟩|refine ⟨⟨by omega,by omega⟩,?_⟩)
        rw [hg2] at hgs
        simp only [Bool.true_or,Bool.false_or] at hgs
        exact Back_of (i + 1) [5,6,29,30,31] [(960,960),(1024,1024)] rfl rfl (by simp [hs,← hgs]; rw [wrap64 (by omega) (by omega)]) (by omega) (by omega)
      · simp -dsimp [h1,ne_of_lt h1,hg,hj2,ne_of_lt hj2,hg2]
        repeat (first|refine ⟨by omega,?_⟩|refine ⟨by simp [capMax];omega,?_⟩|refine ⟨⟨by omega,by omega⟩,?_⟩)
        rw [hg2] at hgs
        simp only [Bool.true_or,Bool.false_or] at hgs
        exact Back_of (i + 1) [5,6,29,30,31] [(960,960),(1024,1024)] rfl rfl (by simp [hs,← hgs]; rw [wrap64 (by omega) (by omega)]) (by omega) (by omega)
  · obtain rfl:i = b.length:=by omega
    simp -dsimp
    clear hi h1
    refine ACallW_go ?_
    refine ACallC_go (fun us => f194_ok (fun x y:GCell => cmpDot x.dot y.dot) swo_cell (enters_of Tryz.func195 (by kernel_rfl) rfl) f195_ok (cellsA a b b.length) (cellsU a b) (by omega) (fun zs h1 h2 => sorted_uniq cellLt_Lt (cellsI_sorted sa sb _ (Nat.le_refl _)) (h1.trans (cellsI_perm a b _).symm) (by rw [← ltOf_cell]; exact h2))) ?_
    simp -dsimp
theorem talTwo_perm {ka kb:List Int} {x y:List GTally} (hx:x.Pairwise fun a b => tallyLt a b = true) (hy:y.Pairwise fun a b => tallyLt a b = true) :
    (talTwo ka kb x y).Pairwise (fun a b => tallyLt a b = true) ∧ (talTwo ka kb x y).Perm (filK (more ka kb) (filK (noMore ka kb) [] x x.length) y y.length):=by
  have add_ins:∀ {p:GTally → Bool} {base l:List GTally} (hd:∀ i,i < l.length → p (nth l i) = true → ∀ z,(z ∈ base ∨ ∃ j,j < i ∧ nth l j = z ∧ p z = true) → ¬ (z.obj = (nth l i).obj ∧ z.rep = (nth l i).rep)) (n:Nat),n ≤ l.length → addN p base l n = insN tallyLt p base l n:=by
    intro p base l hd n
    induction n with
    | zero => intro _; rfl
    | succ n ih =>
      intro hn
      simp only [addN,insN]
      rw [ih (by omega)]
      split
      · rename_i hp
        have hno:idx (talIs (nth l n).obj (nth l n).rep) (insN tallyLt p base l n) = -1:=by
          refine idx_none fun j hj => ?_
          have hm:=(filK_mem (by omega)).1 ((insN_perm tallyLt p base l n).mem_iff.1 (nth_mem hj))
          have h3:=hd n (by omega) hp _ hm
          cases e:talIs (nth l n).obj (nth l n).rep (nth (insN tallyLt p base l n) j)
          · rfl
          · simp only [talIs,Bool.and_eq_true,decide_eq_true_eq,beq_iff_eq] at e
            exact absurd e h3
        simp [addT,hno]
      · rfl
  have key:∀ {l:List GTally} {i j:Nat},(l.Pairwise fun a b => tallyLt a b = true) → j < i → i < l.length → ¬ ((nth l j).obj = (nth l i).obj ∧ (nth l j).rep = (nth l i).rep):=by
    rintro l i j hl hji hi ⟨e1,e2⟩
    have h:=pw_nth hl hji hi
    simp only [tallyLt,e1,e2,strLt_self,Int.lt_irrefl,decide_false,Bool.and_false,Bool.or_self] at h
    cases h
  have tri:∀ {l:List GTally} {i:Nat} {z:GTally},¬ (z.obj = (nth l i).obj ∧ z.rep = (nth l i).rep) → tallyLt (nth l i) z = false → tallyLt z (nth l i) = true:=by
    intro l i z h1 h2
    cases e:tallyLt z (nth l i)
    · exact absurd (tallyLt_tri e h2) h1
    · rfl
  have d1:∀ i,i < x.length → noMore ka kb (nth x i) = true → ∀ z,(z ∈ ([]:List GTally) ∨ ∃ j,j < i ∧ nth x j = z ∧ noMore ka kb z = true) → ¬ (z.obj = (nth x i).obj ∧ z.rep = (nth x i).rep):=by
    rintro i hi hp z (h | ⟨j,hj,rfl,_⟩)
    · cases h
    · exact key hx hj hi
  have e1:=add_ins d1 x.length (Nat.le_refl _)
  have s1:=insN_sorted tallyLt_Lt (p:=noMore ka kb) (base:=[]) (l:=x) List.Pairwise.nil (fun i hi hp z hz => tri (d1 i hi hp z hz)) x.length (Nat.le_refl _)
  have d2:∀ i,i < y.length → more ka kb (nth y i) = true → ∀ z,(z ∈ insN tallyLt (noMore ka kb) [] x x.length ∨ ∃ j,j < i ∧ nth y j = z ∧ more ka kb z = true) → ¬ (z.obj = (nth y i).obj ∧ z.rep = (nth y i).rep):=by
    rintro i hi hp z (h | ⟨j,hj,rfl,_⟩)
    · rcases (filK_mem (Nat.le_refl _)).1 ((insN_perm _ _ _ _ _).mem_iff.1 h) with h | ⟨j,hj,rfl,hn⟩
      · cases h
      · rintro ⟨_,e⟩
        simp only [noMore,more,decide_eq_true_eq] at hn hp
        rw [e] at hn; omega
    · exact key hy hj hi
  have e2:talTwo ka kb x y = insN tallyLt (more ka kb) (insN tallyLt (noMore ka kb) [] x x.length) y y.length:=by
    unfold talTwo
    rw [e1]
    exact add_ins d2 y.length (Nat.le_refl _)
  rw [e2]
  refine ⟨insN_sorted tallyLt_Lt s1 (fun i hi hp z hz => tri (d2 i hi hp z hz)) y.length (Nat.le_refl _),(insN_perm _ _ _ _ _).trans ?_⟩
  rw [filK_app,filK_app (more ka kb) (filK (noMore ka kb) [] x x.length)]
  exact (insN_perm _ _ _ _ _).append_right _
theorem stateOk_tallies {s:GState} (h:stateOk s = true):s.tallies.Pairwise fun a b => tallyLt a b = true:=by
  simp only [stateOk,talliesOk,Bool.and_eq_true] at h
  have h2:=allB_iff.1 h.1.1.1.2.2
  have step:∀ (j i:Nat),i < j → j < s.tallies.length → tallyLt (nth s.tallies i) (nth s.tallies j) = true:=by
    intro j
    induction j with
    | zero => intro i hi; omega
    | succ j ih =>
      intro i hi hj
      have h3:=h2 (j + 1) hj
      simp only [talAt,Bool.and_eq_true,Bool.or_eq_true,decide_eq_true_eq,Nat.add_sub_cancel] at h3
      have h4:tallyLt (nth s.tallies j) (nth s.tallies (j + 1)) = true:=by
        rcases h3.2 with h5 | h5
        · omega
        · exact h5
      by_cases e:i = j
      · rw [e]; exact h4
      · exact tallyLt_Lt.trans _ _ _ (ih i (by omega) (by omega)) h4
  exact pw_of_nth fun i j hij hj => step j i hij hj
theorem stateOk_lives {s:GState} (h:stateOk s = true):(s.lives.Pairwise fun a b => liveLt a b = true) ∧ ∀ x,x ∈ s.lives → knows s.know x.dot = true:=by
  simp only [stateOk,livKsOk,Bool.and_eq_true] at h
  have h2:=allB_iff.1 h.1.1.2.2
  have step:∀ (j i:Nat),i < j → j < s.lives.length → liveLt (nth s.lives i) (nth s.lives j) = true:=by
    intro j
    induction j with
    | zero => intro i hi; omega
    | succ j ih =>
      intro i hi hj
      have h3:=h2 (j + 1) hj
      simp only [livKAt,Bool.and_eq_true,Bool.or_eq_true,decide_eq_true_eq,Nat.add_sub_cancel] at h3
      have h4:liveLt (nth s.lives j) (nth s.lives (j + 1)) = true:=by
        rcases h3.2 with h5 | h5
        · omega
        · exact h5
      by_cases e:i = j
      · rw [e]; exact h4
      · exact liveLt_Lt.trans _ _ _ (ih i (by omega) (by omega)) h4
  refine ⟨pw_of_nth fun i j hij hj => step j i hij hj,fun x hx => ?_⟩
  obtain ⟨i,hi,rfl⟩:=mem_nth hx
  have h3:=h2 i hi
  simp only [livKAt,Bool.and_eq_true] at h3
  exact h3.1.1
theorem livB_sorted {a b:GState} (ka:stateOk a = true) (kb:stateOk b = true):(livB a b b.lives.length).Pairwise (fun x y => liveLt x y = true) ∧ (livB a b b.lives.length).Perm (filK (newB a) (livA a b a.lives.length) b.lives b.lives.length):=by
  obtain ⟨la,ka2⟩:=stateOk_lives ka
  obtain ⟨lb,_⟩:=stateOk_lives kb
  have sA:(livA a b a.lives.length).Pairwise (fun x y => liveLt x y = true):=by
    unfold livA
    rw [filK_filter _ _ _ (Nat.le_refl _),List.take_length]
    exact la.filter _
  refine ⟨insN_sorted liveLt_Lt sA (fun i hi hp y hy h2 => before_ne (fun e => ?_) h2) _ (Nat.le_refl _),insN_perm _ _ _ _ _⟩
  rcases hy with hy | ⟨j,hj,rfl,_⟩
  · rcases (filK_mem (Nat.le_refl _)).1 hy with h3 | ⟨j,hj,rfl,_⟩
    · cases h3
    · have:=ka2 _ (nth_mem hj)
      simp only [newB] at hp
      rw [e,this] at hp; cases hp
  · have:=pw_nth lb hj hi
    simp only [liveLt] at this
    rw [e,before_irr] at this; cases this
@[simp] def h147:Hts:={ dr:=fun id => if id = 1 then [{},{},{},{},{},{},{},{},{},{},{},{}] else [] }
theorem f147_ok (a b:GState) (r:Int) (h0:0 ≤ r) (h1:r < 3) (ka:a.know.length = 3) (kb:b.know.length = 3):FnR Tryz.prog 147 [.v (.int .i64 r),.pc [.im b.know.length (flat b.know),.im b.tallies.length (flat b.tallies),.im b.lives.length (flat b.lives),.im b.cs.length (flat b.cs)],.pc [.im a.know.length (flat a.know),.im a.tallies.length (flat a.tallies),.im a.lives.length (flat a.lives),.im a.cs.length (flat a.cs)]] (.v (.bool (decide (nth a.know r.toNat < nth b.know r.toNat)))):=by
  have q1:r.toNat < a.know.length:=by omega
  have q2:r.toNat < b.know.length:=by omega
  refine FnW.of_AW TryzT_ok 0 (fn:=Tryz.f147) (by kernel_rfl) rfl (by kernel_rfl) rfl rfl rfl ?_; refine AW_of h147 TryzT_ok (by kernel_rfl) ?_
  simp -dsimp [q1,q2,ne_of_lt q1,ne_of_lt q2]
  omega
end Am
namespace Am
open Go Go.Proofs Go.Sort
open Cel (cells)
set_option maxRecDepth 100000
@[simp] def h82:Hts:={ merge:=fun _ => false,mergeF:=fun _ => false,lend:=fun f => if f = 149 then [.lend] else [] }
set_option maxHeartbeats 4000000 in
theorem f82_ok (a b:GState) (ha:a.Ok) (hb:b.Ok):FnR Tryz.prog 82 [.agg [.im a.know.length (flat a.know),.im a.tallies.length (flat a.tallies),.im a.lives.length (flat a.lives),.im a.cs.length (flat a.cs)],.agg [.im b.know.length (flat b.know),.im b.tallies.length (flat b.tallies),.im b.lives.length (flat b.lives),.im b.cs.length (flat b.cs)]] (.agg [.ow 3 1 (mergeState a b).know.length (flat (mergeState a b).know),.ow 104 3 (mergeState a b).tallies.length (flat (mergeState a b).tallies),.ow 98 6 (mergeState a b).lives.length (flat (mergeState a b).lives),.ow 100 8 (mergeState a b).cs.length (flat (mergeState a b).cs)]):=by
  refine FnW.of_AW TryzT_ok 0 (fn:=Tryz.f82) (by kernel_rfl) rfl (by kernel_rfl) rfl rfl rfl ?_; refine AW_of h82 TryzT_ok (by kernel_rfl) ?_
  simp -dsimp
  refine ACallK_of (f34_ok _ ha) ?_
  rw [stateOkM_eq]
  cases ka:stateOk a
  · simp -dsimp
    refine ACallK_of (f80_ok _ ha) ?_
    simp -dsimp
    simp [mergeState,ka]
  simp -dsimp
  refine ACallK_of (f34_ok _ hb) ?_
  rw [stateOkM_eq]
  cases kb:stateOk b
  · simp -dsimp
    refine ACallK_of (f80_ok _ ha) ?_
    simp -dsimp
    simp [mergeState,ka,kb]
  simp -dsimp
  have la:=stateOk_len ka
  have lb:=stateOk_len kb
  have ha2:=ha
  have hb2:=hb
  simp only [GState.Ok] at ha2 hb2
  refine ACallK_of (f145_ok _ _ ha2.1 hb2.1) ?_
  simp -dsimp
  have ra:=stateOk_reps ka
  have rb:=stateOk_reps kb
  have hpt:=talTwo_perm (ka:=a.know) (kb:=b.know) (stateOk_tallies ka) (stateOk_tallies kb)
  have hraw:(mergeRaw a b).Ok:=mergeRaw_ok ha hb ka kb
  have e1:noMore a.know b.know = fun t => !decide (nth a.know t.rep.toNat < nth b.know t.rep.toNat):=by
    funext t
    rw [Bool.eq_iff_iff]
    simp [noMore]
  refine ACallK_of (f146_ok a.tallies b.tallies (talTwo a.know b.know a.tallies b.tallies) (fun r => decide (nth a.know r.toNat < nth b.know r.toNat)) 147 (by decide) _ _ (by omega) (by omega) (fun i hi => f147_ok a b _ (ra i hi).1 (ra i hi).2 (stateOk_know ka) (stateOk_know kb)) (fun i hi => f147_ok a b _ (rb i hi).1 (rb i hi).2 (stateOk_know ka) (stateOk_know kb)) hpt.1 (by have h:=hpt.2; rw [e1] at h; exact h)) ?_
  simp -dsimp
  refine AWh_loop (fun i:Nat => i ≤ a.lives.length) (fun i => mkE [(2,.box 128 0),(3,.box 192 0),(4,.box 256 0),(5,.box 320 0),(34,.c (.im a.lives.length (flat a.lives))),(35,.c (.int .i64 a.lives.length)),(36,.c (.int .i64 i))] [(1502,.arr 0 98 6 (livA a b i).length (flat (livA a b i))),(128,.box [.c (.im a.know.length (flat a.know)),.c (.im a.tallies.length (flat a.tallies)),.c (.im a.lives.length (flat a.lives)),.c (.im a.cs.length (flat a.cs))]),(192,.box [.c (.im b.know.length (flat b.know)),.c (.im b.tallies.length (flat b.tallies)),.c (.im b.lives.length (flat b.lives)),.c (.im b.cs.length (flat b.cs))]),(256,.box [.nil,.nil,.nil,.nil]),(320,.box [.arr 1500,.arr 1501,.arr 1502,.nil]),(1500,.arr 0 3 1 (knowMax a.know b.know).length (flat (knowMax a.know b.know))),(1501,.arr 0 104 3 (talTwo a.know b.know a.tallies b.tallies).length (flat (talTwo a.know b.know a.tallies b.tallies)))]) (fun i => a.lives.length - i) 0 (Wk_toA [2,3,4,5,34,35,36] [(128,128),(192,192),(256,256),(320,320),(1500,1536),(1501,1984)] [.cell 320 2 1502 98 6] rfl rfl (by simp [livA,filK])) (by simp) ?_
  rintro i hi
  have hal:=livA_len a b i
  refine AW_of h82 TryzT_ok (by kernel_rfl) ?_
  rcases Nat.lt_or_ge i a.lives.length with h1 | h1
  · simp -dsimp [h1,ne_of_lt h1]
    repeat (first|refine ⟨by omega,?_⟩|refine ⟨by simp [capMax];omega,?_⟩|refine ⟨⟨by omega,by omega⟩,?_⟩)
    refine ACallK_of (f148_ok _ _ hb2.2.2.2.1) ?_
    cases g2:hasX b.lives (nth a.lives i)
    · simp -dsimp [h1,ne_of_lt h1]
      repeat (first|refine ⟨by omega,?_⟩|refine ⟨by simp [capMax];omega,?_⟩|refine ⟨⟨by omega,by omega⟩,?_⟩)
      refine ACallK_of (f113_ok _ _ hb2.1) ?_
      cases g1:knows b.know (nth a.lives i).dot
      · have hs:livA a b (i + 1) = livA a b i ++ [nth a.lives i]:=by simp [livA,filK,keepA,g1]
        simp -dsimp [h1,ne_of_lt h1]
        repeat (first|refine ⟨by omega,?_⟩|refine ⟨by simp [capMax];omega,?_⟩|refine ⟨⟨by omega,by omega⟩,?_⟩)
        exact Back_of (i + 1) [2,3,4,5,34,35,36] [(1502,3520),(128,128),(192,192),(256,256),(320,320),(1500,1500),(1501,1501)] rfl rfl (by simp [hs]; rw [wrap64 (by omega) (by omega)]) (by omega) (by omega)
      · have hs:livA a b (i + 1) = livA a b i:=by simp [livA,filK,keepA,g1,g2]
        simp -dsimp [h1,ne_of_lt h1]
        repeat (first|refine ⟨by omega,?_⟩|refine ⟨by simp [capMax];omega,?_⟩|refine ⟨⟨by omega,by omega⟩,?_⟩)
        exact Back_of (i + 1) [2,3,4,5,34,35,36] [(1502,1502),(128,128),(192,192),(256,256),(320,320),(1500,1500),(1501,1501)] rfl rfl (by simp [hs]; rw [wrap64 (by omega) (by omega)]) (by omega) (by omega)
    · have hs:livA a b (i + 1) = livA a b i ++ [nth a.lives i]:=by simp [livA,filK,keepA,g2]
      simp -dsimp [h1,ne_of_lt h1]
      repeat (first|refine ⟨by omega,?_⟩|refine ⟨by simp [capMax];omega,?_⟩|refine ⟨⟨by omega,by omega⟩,?_⟩)
      exact Back_of (i + 1) [2,3,4,5,34,35,36] [(1502,3520),(128,128),(192,192),(256,256),(320,320),(1500,1500),(1501,1501)] rfl rfl (by simp [hs]; rw [wrap64 (by omega) (by omega)]) (by omega) (by omega)
  · obtain rfl:i = a.lives.length:=by omega
    clear hi h1
    simp -dsimp
    refine AWh_loop (fun i:Nat => i ≤ b.lives.length) (fun i => mkE [(2,.box 128 0),(3,.box 192 0),(4,.box 256 0),(5,.box 320 0),(59,.c (.im b.lives.length (flat b.lives))),(60,.c (.int .i64 b.lives.length)),(61,.c (.int .i64 i))] [(1502,.arr 0 98 6 (filK (newB a) (livA a b a.lives.length) b.lives i).length (flat (filK (newB a) (livA a b a.lives.length) b.lives i))),(128,.box [.c (.im a.know.length (flat a.know)),.c (.im a.tallies.length (flat a.tallies)),.c (.im a.lives.length (flat a.lives)),.c (.im a.cs.length (flat a.cs))]),(192,.box [.c (.im b.know.length (flat b.know)),.c (.im b.tallies.length (flat b.tallies)),.c (.im b.lives.length (flat b.lives)),.c (.im b.cs.length (flat b.cs))]),(256,.box [.nil,.nil,.nil,.nil]),(320,.box [.arr 1500,.arr 1501,.arr 1502,.nil]),(1500,.arr 0 3 1 (knowMax a.know b.know).length (flat (knowMax a.know b.know))),(1501,.arr 0 104 3 (talTwo a.know b.know a.tallies b.tallies).length (flat (talTwo a.know b.know a.tallies b.tallies)))]) (fun i => b.lives.length - i) 0 (Wk_to [2,3,4,5,59,60,61] [(1502,1502),(128,128),(192,192),(256,256),(320,320),(1500,1500),(1501,1501)] rfl rfl (by simp [filK])) (by simp) ?_
    rintro i hi
    have hal2:=filK_len (newB a) (livA a b a.lives.length) b.lives i
    refine AW_of h82 TryzT_ok (by kernel_rfl) ?_
    rcases Nat.lt_or_ge i b.lives.length with h1 | h1
    · simp -dsimp [h1,ne_of_lt h1]
      repeat (first|refine ⟨by omega,?_⟩|refine ⟨by simp [capMax];omega,?_⟩|refine ⟨⟨by omega,by omega⟩,?_⟩)
      refine ACallK_of (f113_ok _ _ ha2.1) ?_
      cases g1:knows a.know (nth b.lives i).dot
      · have hs:filK (newB a) (livA a b a.lives.length) b.lives (i + 1) = filK (newB a) (livA a b a.lives.length) b.lives i ++ [nth b.lives i]:=by simp [filK,newB,g1]
        simp -dsimp [h1,ne_of_lt h1]
        repeat (first|refine ⟨by omega,?_⟩|refine ⟨by simp [capMax];omega,?_⟩|refine ⟨⟨by omega,by omega⟩,?_⟩)
        exact Back_of (i + 1) [2,3,4,5,59,60,61] [(1502,4800),(128,128),(192,192),(256,256),(320,320),(1500,1500),(1501,1501)] rfl rfl (by simp [hs]; rw [wrap64 (by omega) (by omega)]) (by omega) (by omega)
      · have hs:filK (newB a) (livA a b a.lives.length) b.lives (i + 1) = filK (newB a) (livA a b a.lives.length) b.lives i:=by simp [filK,newB,g1]
        simp -dsimp [h1,ne_of_lt h1]
        repeat (first|refine ⟨by omega,?_⟩|refine ⟨by simp [capMax];omega,?_⟩|refine ⟨⟨by omega,by omega⟩,?_⟩)
        exact Back_of (i + 1) [2,3,4,5,59,60,61] [(1502,1502),(128,128),(192,192),(256,256),(320,320),(1500,1500),(1501,1501)] rfl rfl (by simp [hs]; rw [wrap64 (by omega) (by omega)]) (by omega) (by omega)
    · obtain rfl:i = b.lives.length:=by omega
      clear hi h1
      simp -dsimp
      have hsl:=livB_sorted ka kb
      refine ACallW_go ?_
      refine ACallC_go (fun us => f149_ok _ _ (by omega) hsl.1 hsl.2) ?_
      simp -dsimp
      refine ACallK_of (f150_ok _ _ (by omega) (by omega) (stateOk_cells ka) (stateOk_cells kb)) ?_
      simp -dsimp
      refine ACallK_of (f34_ok (mergeRaw a b) hraw) ?_
      rw [stateOkM_eq]
      cases g:stateOk (mergeRaw a b)
      · simp -dsimp
        refine ACallK_of (f80_ok _ ha) ?_
        simp -dsimp
        simp [mergeState,ka,kb,g]
      · simp -dsimp
        simp [mergeState,ka,kb,g]
        simp [mergeRaw]
end Am
namespace Am
open Go Go.Proofs
open Cel (cells)
set_option maxRecDepth 100000
@[simp] def h218:Hts:={ dr:=fun id => if id = 6 then [{},{},{},{},{},{},{},{},{}] else [] }
theorem f218_ok (a b:List Int) (ha:a.length ≤ 1073741824):FnR Tryz.prog 218 [.v (.im a.length (flat a)),.v (.im b.length (flat b))] (.v (.bool (decide (a = b)))):=by
  refine FnW.of_AW TryzT_ok 0 (fn:=Tryz.f218) (by kernel_rfl) rfl (by kernel_rfl) rfl rfl rfl ?_; refine AW_of h218 TryzT_ok (by kernel_rfl) ?_
  simp -dsimp
  refine ⟨fun h e => h (by rw [e]),fun hl => ?_⟩
  replace hl:a.length = b.length:=by omega
  refine AWh_loop (fun i:Nat => i ≤ a.length ∧ ∀ j:Nat,j < i → nth a j = nth b j) (fun i => mkE [(0,.c (.im a.length (flat a))),(1,.c (.im b.length (flat b))),(12,.c (.int .i64 a.length)),(13,.c (.int .i64 i))] []) (fun i => a.length - i) 0 (Wk_to [0,1,12,13] [] rfl rfl (by simp)) (by simp) ?_
  rintro i ⟨hi,hall⟩
  refine AW_of h218 TryzT_ok (by kernel_rfl) ?_
  rcases Nat.lt_or_ge i a.length with h1 | h1
  · have h2:i < b.length:=by omega
    simp -dsimp [h1,h2,ne_of_lt h1,ne_of_lt h2]
    refine ⟨fun h => ?_,?_⟩
    · rintro rfl
      simp at h
    intros
    refine Back_of (i + 1) [0,1,12,13] [] rfl rfl (by simp; rw [wrap64 (by omega) (by omega)]) ⟨by omega,fun j hj => ?_⟩ (by omega)
    by_cases e:j = i
    · subst e
      first | assumption | (apply Int.ext <;> first | assumption | (apply GDot.ext <;> assumption))
    · exact hall j (by omega)
  · simp -dsimp [Nat.not_lt.2 h1]
    exact list_eq_of_nth hl (fun j hj => hall j (by omega))
@[simp] def h219:Hts:={ dr:=fun id => if id = 6 then [{},{},{},{},{},{},{},{},{}] else [] }
theorem f219_ok (a b:List GTally) (ha:a.length ≤ 1073741824):FnR Tryz.prog 219 [.v (.im a.length (flat a)),.v (.im b.length (flat b))] (.v (.bool (decide (a = b)))):=by
  refine FnW.of_AW TryzT_ok 0 (fn:=Tryz.f219) (by kernel_rfl) rfl (by kernel_rfl) rfl rfl rfl ?_; refine AW_of h219 TryzT_ok (by kernel_rfl) ?_
  simp -dsimp
  refine ⟨fun h e => h (by rw [e]),fun hl => ?_⟩
  replace hl:a.length = b.length:=by omega
  refine AWh_loop (fun i:Nat => i ≤ a.length ∧ ∀ j:Nat,j < i → nth a j = nth b j) (fun i => mkE [(0,.c (.im a.length (flat a))),(1,.c (.im b.length (flat b))),(12,.c (.int .i64 a.length)),(13,.c (.int .i64 i))] []) (fun i => a.length - i) 0 (Wk_to [0,1,12,13] [] rfl rfl (by simp)) (by simp) ?_
  rintro i ⟨hi,hall⟩
  refine AW_of h219 TryzT_ok (by kernel_rfl) ?_
  rcases Nat.lt_or_ge i a.length with h1 | h1
  · have h2:i < b.length:=by omega
    simp -dsimp [h1,h2,ne_of_lt h1,ne_of_lt h2]
    refine ⟨by omega,by omega,?_⟩
    refine ⟨fun h => ?_,?_⟩
    · rintro rfl
      simp at h
    intros
    refine Back_of (i + 1) [0,1,12,13] [] rfl rfl (by simp; rw [wrap64 (by omega) (by omega)]) ⟨by omega,fun j hj => ?_⟩ (by omega)
    by_cases e:j = i
    · subst e
      first | assumption | (apply GTally.ext <;> first | assumption | (apply GDot.ext <;> assumption))
    · exact hall j (by omega)
  · simp -dsimp [Nat.not_lt.2 h1]
    exact list_eq_of_nth hl (fun j hj => hall j (by omega))
@[simp] def h220:Hts:={ dr:=fun id => if id = 6 then [{},{},{},{},{},{},{},{},{}] else [] }
theorem f220_ok (a b:List GLive) (ha:a.length ≤ 1073741824):FnR Tryz.prog 220 [.v (.im a.length (flat a)),.v (.im b.length (flat b))] (.v (.bool (decide (a = b)))):=by
  refine FnW.of_AW TryzT_ok 0 (fn:=Tryz.f220) (by kernel_rfl) rfl (by kernel_rfl) rfl rfl rfl ?_; refine AW_of h220 TryzT_ok (by kernel_rfl) ?_
  simp -dsimp
  refine ⟨fun h e => h (by rw [e]),fun hl => ?_⟩
  replace hl:a.length = b.length:=by omega
  refine AWh_loop (fun i:Nat => i ≤ a.length ∧ ∀ j:Nat,j < i → nth a j = nth b j) (fun i => mkE [(0,.c (.im a.length (flat a))),(1,.c (.im b.length (flat b))),(12,.c (.int .i64 a.length)),(13,.c (.int .i64 i))] []) (fun i => a.length - i) 0 (Wk_to [0,1,12,13] [] rfl rfl (by simp)) (by simp) ?_
  rintro i ⟨hi,hall⟩
  refine AW_of h220 TryzT_ok (by kernel_rfl) ?_
  rcases Nat.lt_or_ge i a.length with h1 | h1
  · have h2:i < b.length:=by omega
    simp -dsimp [h1,h2,ne_of_lt h1,ne_of_lt h2]
    refine ⟨by omega,by omega,?_⟩
    refine ⟨fun h => ?_,?_⟩
    · rintro rfl
      simp at h
    intros
    refine Back_of (i + 1) [0,1,12,13] [] rfl rfl (by simp; rw [wrap64 (by omega) (by omega)]) ⟨by omega,fun j hj => ?_⟩ (by omega)
    by_cases e:j = i
    · subst e
      first | assumption | (apply GLive.ext <;> first | assumption | (apply GDot.ext <;> assumption))
    · exact hall j (by omega)
  · simp -dsimp [Nat.not_lt.2 h1]
    exact list_eq_of_nth hl (fun j hj => hall j (by omega))
@[simp] def h221:Hts:={ dr:=fun id => if id = 6 then [{},{},{},{},{},{},{},{},{}] else [] }
theorem f221_ok (a b:List GCell) (ha:a.length ≤ 1073741824):FnR Tryz.prog 221 [.v (.im a.length (flat a)),.v (.im b.length (flat b))] (.v (.bool (decide (a = b)))):=by
  refine FnW.of_AW TryzT_ok 0 (fn:=Tryz.f221) (by kernel_rfl) rfl (by kernel_rfl) rfl rfl rfl ?_; refine AW_of h221 TryzT_ok (by kernel_rfl) ?_
  simp -dsimp
  refine ⟨fun h e => h (by rw [e]),fun hl => ?_⟩
  replace hl:a.length = b.length:=by omega
  refine AWh_loop (fun i:Nat => i ≤ a.length ∧ ∀ j:Nat,j < i → nth a j = nth b j) (fun i => mkE [(0,.c (.im a.length (flat a))),(1,.c (.im b.length (flat b))),(12,.c (.int .i64 a.length)),(13,.c (.int .i64 i))] []) (fun i => a.length - i) 0 (Wk_to [0,1,12,13] [] rfl rfl (by simp)) (by simp) ?_
  rintro i ⟨hi,hall⟩
  refine AW_of h221 TryzT_ok (by kernel_rfl) ?_
  rcases Nat.lt_or_ge i a.length with h1 | h1
  · have h2:i < b.length:=by omega
    simp -dsimp [h1,h2,ne_of_lt h1,ne_of_lt h2]
    refine ⟨by omega,by omega,?_⟩
    refine ⟨fun h => ?_,?_⟩
    · rintro rfl
      simp at h
    intros
    refine Back_of (i + 1) [0,1,12,13] [] rfl rfl (by simp; rw [wrap64 (by omega) (by omega)]) ⟨by omega,fun j hj => ?_⟩ (by omega)
    by_cases e:j = i
    · subst e
      first | assumption | (apply GCell.ext <;> first | assumption | (apply GDot.ext <;> assumption))
    · exact hall j (by omega)
  · simp -dsimp [Nat.not_lt.2 h1]
    exact list_eq_of_nth hl (fun j hj => hall j (by omega))
@[simp] def h69:Hts:={ dr:=fun id => if id = 6 then [{},{},{},{},{},{},{},{},{}] else [] }
theorem f69_ok (a b:List Int) (ha:a.length ≤ 1073741824):FnR Tryz.prog 69 [.v (.im a.length (flat a)),.v (.im b.length (flat b))] (.v (.bool (decide (a = b)))):=by
  refine FnW.of_AW TryzT_ok 0 (fn:=Tryz.f69) (by kernel_rfl) rfl (by kernel_rfl) rfl rfl rfl ?_; refine AW_of h69 TryzT_ok (by kernel_rfl) ?_
  simp -dsimp
  refine ⟨fun h e => h (by rw [e]),fun hl => ?_⟩
  replace hl:a.length = b.length:=by omega
  refine AWh_loop (fun i:Nat => i ≤ a.length ∧ ∀ j:Nat,j < i → nth a j = nth b j) (fun i => mkE [(0,.c (.im a.length (flat a))),(1,.c (.im b.length (flat b))),(5,.c (.int .i64 i))] []) (fun i => a.length - i) 0 (Wk_to [0,1,5] [] rfl rfl (by simp)) (by simp) ?_
  rintro i ⟨hi,hall⟩
  refine AW_of h69 TryzT_ok (by kernel_rfl) ?_
  rcases Nat.lt_or_ge i a.length with h1 | h1
  · have h2:i < b.length:=by omega
    simp -dsimp [h1,h2,ne_of_lt h1,ne_of_lt h2]
    refine ⟨fun h => ?_,?_⟩
    · rintro rfl
      simp at h
    intros
    refine Back_of (i + 1) [0,1,5] [] rfl rfl (by simp; rw [wrap64 (by omega) (by omega)]) ⟨by omega,fun j hj => ?_⟩ (by omega)
    by_cases e:j = i
    · subst e
      first | assumption | (apply Int.ext <;> first | assumption | (apply GDot.ext <;> assumption))
    · exact hall j (by omega)
  · simp -dsimp [Nat.not_lt.2 h1]
    exact list_eq_of_nth hl (fun j hj => hall j (by omega))
end Am
namespace Am
open Go Go.Proofs
open Cel (cells)
set_option maxRecDepth 100000
theorem list_ne_nth {α:Type} [Cel α] {x y:List α} {i:Nat} (h:nth x i ≠ nth y i):x ≠ y:=fun e => h (by rw [e])
theorem state_eq {a b:GState}:decide (a = b) = (decide (a.know = b.know) && decide (a.tallies = b.tallies) && decide (a.lives = b.lives) && decide (a.cs = b.cs)):=by
  rw [Bool.eq_iff_iff]
  simp only [Bool.and_eq_true,decide_eq_true_eq]
  constructor
  · rintro rfl; exact ⟨⟨⟨rfl,rfl⟩,rfl⟩,rfl⟩
  · rintro ⟨⟨⟨h1,h2⟩,h3⟩,h4⟩; cases a; cases b; simp_all
@[simp] def h196:Hts:={ merge:=fun _ => false,mergeF:=fun _ => false }
set_option maxHeartbeats 2000000 in
theorem f196_ok (a b:GState) (ha:a.Ok):FnR Tryz.prog 196 [.agg [.im a.know.length (flat a.know),.im a.tallies.length (flat a.tallies),.im a.lives.length (flat a.lives),.im a.cs.length (flat a.cs)],.agg [.im b.know.length (flat b.know),.im b.tallies.length (flat b.tallies),.im b.lives.length (flat b.lives),.im b.cs.length (flat b.cs)]] (.v (.bool (decide (a = b)))):=by
  simp only [GState.Ok] at ha
  obtain ⟨a0,a1,a2,a3,a4,a5,a6⟩:=ha
  rw [state_eq]
  refine FnW.of_AW TryzT_ok 0 (fn:=Tryz.f196) (by kernel_rfl) rfl (by kernel_rfl) rfl rfl rfl ?_; refine AW_of h196 TryzT_ok (by kernel_rfl) ?_
  simp -dsimp
  refine ACallK_of (f218_ok _ _ a0) ?_
  cases h0:decide (a.know = b.know)
  · simp -dsimp
  simp -dsimp
  refine ACallK_of (f219_ok _ _ a1) ?_
  cases h1:decide (a.tallies = b.tallies)
  · simp -dsimp
  simp -dsimp
  refine ACallK_of (f220_ok _ _ a3) ?_
  cases h2:decide (a.lives = b.lives)
  · simp -dsimp
  simp -dsimp
  refine ACallK_of (f221_ok _ _ a5) ?_
  simp -dsimp
@[simp] def h18:Hts:={ merge:=fun _ => false,mergeF:=fun _ => false,dr:=fun id => if id = 6 then [{},{},{},{},{},{},{},{},{},{},{}] else if id = 11 then [{},{},{},{},{},{},{},{},{},{},{}] else if id = 16 then [{},{},{},{},{},{},{},{},{},{},{}] else [] }
set_option maxHeartbeats 4000000 in
theorem f18_ok (a b:GState) (ha:a.Ok):FnR Tryz.prog 18 [.agg [.im a.know.length (flat a.know),.im a.tallies.length (flat a.tallies),.im a.lives.length (flat a.lives),.im a.cs.length (flat a.cs)],.agg [.im b.know.length (flat b.know),.im b.tallies.length (flat b.tallies),.im b.lives.length (flat b.lives),.im b.cs.length (flat b.cs)]] (.v (.bool (decide (a = b)))):=by
  simp only [GState.Ok] at ha
  obtain ⟨a0,a1,a2,a3,a4,a5,a6⟩:=ha
  rw [state_eq]
  refine FnW.of_AW TryzT_ok 0 (fn:=Tryz.f18) (by kernel_rfl) rfl (by kernel_rfl) rfl rfl rfl ?_; refine AW_of h18 TryzT_ok (by kernel_rfl) ?_
  simp -dsimp
  refine ACallK_of (f69_ok _ _ a0) ?_
  by_cases h0:a.know = b.know
  case neg => simp -dsimp [h0]
  by_cases l1:(a.tallies.length:Int) = b.tallies.length
  case neg =>
    have hne:a.tallies ≠ b.tallies:=fun e => l1 (by rw [e])
    have b1:((a.tallies.length:Int) != (b.tallies.length:Int)) = true:=by simp [l1]
    simp -dsimp [h0,b1,hne]
  have b1:((a.tallies.length:Int) != (b.tallies.length:Int)) = false:=by simp [l1]
  replace l1:a.tallies.length = b.tallies.length:=by omega
  by_cases l2:(a.lives.length:Int) = b.lives.length
  case neg =>
    have hne:a.lives ≠ b.lives:=fun e => l2 (by rw [e])
    have b2:((a.lives.length:Int) != (b.lives.length:Int)) = true:=by simp [l2]
    simp -dsimp [h0,b1,b2,hne]
  have b2:((a.lives.length:Int) != (b.lives.length:Int)) = false:=by simp [l2]
  replace l2:a.lives.length = b.lives.length:=by omega
  by_cases l3:(a.cs.length:Int) = b.cs.length
  case neg =>
    have hne:a.cs ≠ b.cs:=fun e => l3 (by rw [e])
    have b3:((a.cs.length:Int) != (b.cs.length:Int)) = true:=by simp [l3]
    simp -dsimp [h0,b1,b2,b3,hne]
  have b3:((a.cs.length:Int) != (b.cs.length:Int)) = false:=by simp [l3]
  replace l3:a.cs.length = b.cs.length:=by omega
  simp -dsimp [h0,b1,b2,b3]
  refine AWh_loop (fun i:Nat => i ≤ a.tallies.length ∧ ∀ j:Nat,j < i → nth a.tallies j = nth b.tallies j) (fun i => mkE [(2,.box 128 0),(3,.box 192 0),(5,.c (.int .i64 i))] [(128,.box [.c (.im a.know.length (flat a.know)),.c (.im a.tallies.length (flat a.tallies)),.c (.im a.lives.length (flat a.lives)),.c (.im a.cs.length (flat a.cs))]),(192,.box [.c (.im b.know.length (flat b.know)),.c (.im b.tallies.length (flat b.tallies)),.c (.im b.lives.length (flat b.lives)),.c (.im b.cs.length (flat b.cs))])]) (fun i => a.tallies.length - i) 0 (Wk_to [2,3,5] [(128,128),(192,192)] rfl rfl (by simp [h0])) (by simp) ?_
  rintro i ⟨hi,hall⟩
  refine AW_of h18 TryzT_ok (by kernel_rfl) ?_
  rcases Nat.lt_or_ge i a.tallies.length with g1 | g1
  · have g2:i < b.tallies.length:=by omega
    simp -dsimp [g1,g2,ne_of_lt g1,ne_of_lt g2]
    refine ⟨by omega,by omega,?_⟩
    refine ⟨fun h => ?_,?_⟩
    · have hne:a.tallies ≠ b.tallies:=list_ne_nth (i:=i) (fun e => by rw [e] at h; simp at h)
      simp [hne]
    intros
    refine Back_of (i + 1) [2,3,5] [(128,128),(192,192)] rfl rfl (by simp; rw [wrap64 (by omega) (by omega)]) ⟨by omega,fun j hj => ?_⟩ (by omega)
    by_cases e:j = i
    · subst e
      apply GTally.ext <;> first | assumption | (apply GDot.ext <;> assumption)
    · exact hall j (by omega)
  obtain rfl:i = a.tallies.length:=by omega
  have q1:a.tallies = b.tallies:=list_eq_of_nth l1 (fun j hj => hall j (by omega))
  clear hi hall g1
  simp -dsimp
  refine AWh_loop (fun i:Nat => i ≤ a.lives.length ∧ ∀ j:Nat,j < i → nth a.lives j = nth b.lives j) (fun i => mkE [(2,.box 128 0),(3,.box 192 0),(6,.c (.int .i64 i))] [(128,.box [.c (.im a.know.length (flat a.know)),.c (.im a.tallies.length (flat a.tallies)),.c (.im a.lives.length (flat a.lives)),.c (.im a.cs.length (flat a.cs))]),(192,.box [.c (.im b.know.length (flat b.know)),.c (.im b.tallies.length (flat b.tallies)),.c (.im b.lives.length (flat b.lives)),.c (.im b.cs.length (flat b.cs))])]) (fun i => a.lives.length - i) 0 (Wk_to [2,3,6] [(128,128),(192,192)] rfl rfl (by simp [h0])) (by simp) ?_
  rintro i ⟨hi,hall⟩
  refine AW_of h18 TryzT_ok (by kernel_rfl) ?_
  rcases Nat.lt_or_ge i a.lives.length with g1 | g1
  · have g2:i < b.lives.length:=by omega
    simp -dsimp [g1,g2,ne_of_lt g1,ne_of_lt g2]
    refine ⟨by omega,by omega,?_⟩
    refine ⟨fun h => ?_,?_⟩
    · have hne:a.lives ≠ b.lives:=list_ne_nth (i:=i) (fun e => by rw [e] at h; simp at h)
      simp [hne]
    intros
    refine Back_of (i + 1) [2,3,6] [(128,128),(192,192)] rfl rfl (by simp; rw [wrap64 (by omega) (by omega)]) ⟨by omega,fun j hj => ?_⟩ (by omega)
    by_cases e:j = i
    · subst e
      apply GLive.ext <;> first | assumption | (apply GDot.ext <;> assumption)
    · exact hall j (by omega)
  obtain rfl:i = a.lives.length:=by omega
  have q2:a.lives = b.lives:=list_eq_of_nth l2 (fun j hj => hall j (by omega))
  clear hi hall g1
  simp -dsimp
  refine AWh_loop (fun i:Nat => i ≤ a.cs.length ∧ ∀ j:Nat,j < i → nth a.cs j = nth b.cs j) (fun i => mkE [(2,.box 128 0),(3,.box 192 0),(7,.c (.int .i64 i))] [(128,.box [.c (.im a.know.length (flat a.know)),.c (.im a.tallies.length (flat a.tallies)),.c (.im a.lives.length (flat a.lives)),.c (.im a.cs.length (flat a.cs))]),(192,.box [.c (.im b.know.length (flat b.know)),.c (.im b.tallies.length (flat b.tallies)),.c (.im b.lives.length (flat b.lives)),.c (.im b.cs.length (flat b.cs))])]) (fun i => a.cs.length - i) 0 (Wk_to [2,3,7] [(128,128),(192,192)] rfl rfl (by simp [h0])) (by simp) ?_
  rintro i ⟨hi,hall⟩
  refine AW_of h18 TryzT_ok (by kernel_rfl) ?_
  rcases Nat.lt_or_ge i a.cs.length with g1 | g1
  · have g2:i < b.cs.length:=by omega
    simp -dsimp [g1,g2,ne_of_lt g1,ne_of_lt g2]
    refine ⟨by omega,by omega,?_⟩
    refine ⟨fun h => ?_,?_⟩
    · have hne:a.cs ≠ b.cs:=list_ne_nth (i:=i) (fun e => by rw [e] at h; simp at h)
      simp [hne]
    intros
    refine Back_of (i + 1) [2,3,7] [(128,128),(192,192)] rfl rfl (by simp; rw [wrap64 (by omega) (by omega)]) ⟨by omega,fun j hj => ?_⟩ (by omega)
    by_cases e:j = i
    · subst e
      apply GCell.ext <;> first | assumption | (apply GDot.ext <;> assumption)
    · exact hall j (by omega)
  obtain rfl:i = a.cs.length:=by omega
  have q3:a.cs = b.cs:=list_eq_of_nth l3 (fun j hj => hall j (by omega))
  clear hi hall g1
  simp -dsimp
  simp [h0,q1,q2,q3]
end Am
namespace Am
open Go Go.Proofs
open Cel (cells)
set_option maxRecDepth 100000
@[simp] def h5:Hts:={  }
theorem f5_ok (b:List UInt8):FnR Tryz.prog 5 [.v (.im b.length (flat b))] (.v (.bool (decide (1048576 < b.length)))):=by
  refine FnW.of_AW TryzT_ok 0 (fn:=Tryz.f5) (by kernel_rfl) rfl (by kernel_rfl) rfl rfl rfl ?_; refine AW_of h5 TryzT_ok (by kernel_rfl) ?_
  simp -dsimp
  omega
@[simp] def h72:Hts:={ merge:=fun _ => false,dr:=fun id => if id = 6 then [{},{},{},{},{},{},{},{},{}] else [] }
theorem f72_ok (l:List Int) (hl:l.length ≤ 1073741824):FnR Tryz.prog 72 [.v (.im l.length (flat l)),.v (.im l.length (flat l))] (.v (.bool true)):=by
  refine FnW.of_AW TryzT_ok 0 (fn:=Tryz.f72) (by kernel_rfl) rfl (by kernel_rfl) rfl rfl rfl ?_; refine AW_of h72 TryzT_ok (by kernel_rfl) ?_
  simp -dsimp
  refine AWh_loop (fun i:Nat => i ≤ l.length) (fun i => mkE [(0,.c (.im l.length (flat l))),(1,.c (.im l.length (flat l))),(5,.c (.int .i64 i))] []) (fun i => l.length - i) 0 (Wk_to [0,1,5] [] rfl rfl (by simp)) (by simp) ?_
  rintro i hi
  refine AW_of h72 TryzT_ok (by kernel_rfl) ?_
  have wi:IntKind.i64.wrap ((i:Int) + 1) = i + 1:=wrap64 (by omega) (by omega)
  rcases Nat.lt_or_ge i l.length with h1 | h1
  · simp -dsimp [h1,ne_of_lt h1,wi]
    exact Back_of (i + 1) [0,1,5] [] rfl rfl (by simp) (by omega) (by omega)
  · simp -dsimp [Nat.not_lt.2 h1,h1]
end Am
namespace Am
open Go Go.Proofs
open Cel (cells)
set_option maxRecDepth 100000
@[simp] def h23:Hts:={ merge:=fun _ => false,mergeF:=fun _ => false,dr:=fun id => if id = 6 then [{},{},{},{},{},{},{},{},{},{},{},{},{},{},{},{},{},{},{},{},{},{},{},{},{},{},{ cr:=true },{},{},{},{},{},{},{},{},{},{},{},{},{},{},{},{ cr:=true },{},{}] else [] }
set_option maxHeartbeats 2000000 in
theorem f23_ok (g:GGraph) (hg:g.Ok):FnR Tryz.prog 23 [.agg [.im g.commits.length (flat g.commits),.int .i64 g.head],.agg [.im g.commits.length (flat g.commits),.int .i64 g.head]] (.v (.bool true)):=by
  have hgo:=hg
  simp only [GGraph.Ok] at hg
  refine FnW.of_AW TryzT_ok 0 (fn:=Tryz.f23) (by kernel_rfl) rfl (by kernel_rfl) rfl rfl rfl ?_; refine AW_of h23 TryzT_ok (by kernel_rfl) ?_
  simp -dsimp
  refine AWh_loop (fun i:Nat => i ≤ g.commits.length) (fun i => mkE [(2,.box 128 0),(3,.box 192 0),(5,.c (.int .i64 i))] [(128,.box [.c (.im g.commits.length (flat g.commits)),.c (.int .i64 g.head)]),(192,.box [.c (.im g.commits.length (flat g.commits)),.c (.int .i64 g.head)])]) (fun i => g.commits.length - i) 0 (Wk_to [2,3,5] [(128,128),(192,192)] rfl rfl (by simp)) (by simp) ?_
  rintro i hi
  refine AW_of h23 TryzT_ok (by kernel_rfl) ?_
  have wi:IntKind.i64.wrap ((i:Int) + 1) = i + 1:=wrap64 (by omega) (by omega)
  rcases Nat.lt_or_ge i g.commits.length with h1 | h1
  · have hc:=hg.2 _ (nth_mem h1)
    simp only [GCommit.Ok] at hc
    simp -dsimp [h1,ne_of_lt h1]
    repeat (first|refine ⟨by omega,?_⟩|refine ⟨by simp [capMax];omega,?_⟩|refine ⟨⟨by omega,by omega⟩,?_⟩)
    refine ACallK_of (f72_ok _ hc.1) ?_
    simp -dsimp [h1,ne_of_lt h1]
    repeat (first|refine ⟨by omega,?_⟩|refine ⟨by simp [capMax];omega,?_⟩|refine ⟨⟨by omega,by omega⟩,?_⟩)
    refine ACallK_of (f18_ok _ _ hc.2) ?_
    simp -dsimp [wi]
    exact Back_of (i + 1) [2,3,5] [(128,128),(192,192)] rfl rfl (by simp) (by omega) (by omega)
  · obtain rfl:i = g.commits.length:=by omega
    simp -dsimp
end Am
namespace Am
open Go Go.Proofs
open Cel (cells)
set_option maxRecDepth 100000
def behind (a b:GState):Bool:=stateOk a && (stateOk b && decide (mergeState a b = b))
theorem mergeState_ok {a b:GState} (ha:a.Ok) (hb:b.Ok):(mergeState a b).Ok:=by
  unfold mergeState
  split
  · rename_i h
    simp only [Bool.and_eq_true] at h
    split
    · exact mergeRaw_ok ha hb h.1 h.2
    · exact ha
  · exact ha
@[simp] def h26:Hts:={ merge:=fun _ => false,mergeF:=fun _ => false,dr:=fun id => if id = 1 then [{},{ cr:=true },{},{},{ cr:=true },{},{},{},{},{ cr:=true },{ mb:=[14] },{ cr:=true },{},{}] else [] }
set_option maxHeartbeats 4000000 in
theorem f26_ok (a b:GState) (ha:a.Ok) (hb:b.Ok):FnR Tryz.prog 26 [.agg [.im a.know.length (flat a.know),.im a.tallies.length (flat a.tallies),.im a.lives.length (flat a.lives),.im a.cs.length (flat a.cs)],.agg [.im b.know.length (flat b.know),.im b.tallies.length (flat b.tallies),.im b.lives.length (flat b.lives),.im b.cs.length (flat b.cs)]] (.v (.bool (behind a b))):=by
  refine FnW.of_AW TryzT_ok 0 (fn:=Tryz.f26) (by kernel_rfl) rfl (by kernel_rfl) rfl rfl rfl ?_; refine AW_of h26 TryzT_ok (by kernel_rfl) ?_
  simp -dsimp
  refine ACallK_of (f17_ok _ ha) ?_
  rw [stateOkS_eq]
  cases ka:stateOk a
  · simp -dsimp
    simp [behind,ka]
  simp -dsimp
  refine ACallK_of (f17_ok _ hb) ?_
  rw [stateOkS_eq]
  cases kb:stateOk b
  · simp -dsimp
    simp [behind,kb]
  simp -dsimp
  refine ACallK_of (f31_ok _ _ ha hb) ?_
  simp -dsimp
  refine ACallK_of (f18_ok (mergeState a b) b (mergeState_ok ha hb)) ?_
  simp -dsimp
  simp [behind,ka,kb]
@[simp] def h151:Hts:={ merge:=fun _ => false,mergeF:=fun _ => false,dr:=fun id => if id = 1 then [{},{ cr:=true },{},{},{ cr:=true },{},{},{},{},{ cr:=true },{ mb:=[14] },{ cr:=true },{},{}] else [] }
set_option maxHeartbeats 4000000 in
theorem f151_ok (a b:GState) (ha:a.Ok) (hb:b.Ok):FnR Tryz.prog 151 [.agg [.im a.know.length (flat a.know),.im a.tallies.length (flat a.tallies),.im a.lives.length (flat a.lives),.im a.cs.length (flat a.cs)],.agg [.im b.know.length (flat b.know),.im b.tallies.length (flat b.tallies),.im b.lives.length (flat b.lives),.im b.cs.length (flat b.cs)]] (.v (.bool (behind a b))):=by
  refine FnW.of_AW TryzT_ok 0 (fn:=Tryz.f151) (by kernel_rfl) rfl (by kernel_rfl) rfl rfl rfl ?_; refine AW_of h151 TryzT_ok (by kernel_rfl) ?_
  simp -dsimp
  refine ACallK_of (f34_ok _ ha) ?_
  rw [stateOkM_eq]
  cases ka:stateOk a
  · simp -dsimp
    simp [behind,ka]
  simp -dsimp
  refine ACallK_of (f34_ok _ hb) ?_
  rw [stateOkM_eq]
  cases kb:stateOk b
  · simp -dsimp
    simp [behind,kb]
  simp -dsimp
  refine ACallK_of (f82_ok _ _ ha hb) ?_
  simp -dsimp
  refine ACallK_of (f196_ok (mergeState a b) b (mergeState_ok ha hb)) ?_
  simp -dsimp
  simp [behind,ka,kb]
end Am
