/- An act read,of both. No condition. -/
import Derived.Test.YteidfkbfocdnmaaGreatT
import Derived.Test.YteidfkbfocdnmaaGreatD
import Derived.Test.YteidfkbfocdnmaaGreatE34
import Derived.Test.YteidfkbfocdnmaaGreatE9
import Derived.Test.YteidfkbfocdnmaaGreatE10
import Derived.Test.YteidfkbfocdnmaaGreatAm31
import Derived.Test.YteidfkbfocdnmaaGreatE36
set_option linter.unusedSimpArgs false
set_option linter.unusedVariables false
set_option linter.unnecessarySimpa false
set_option linter.unusedSectionVars false
namespace Am
open Go Go.Proofs
open Cel (cells)
set_option maxRecDepth 100000
def aS1 (s:GScan):GScan:=(dotM s).2
def aS2 (s:GScan):GScan:=(numM (aS1 s)).2
def aS3 (s:GScan):GScan:=(knowM (aS2 s)).2
def aS4 (s:GScan):GScan:=(numM (aS3 s)).2
def aS5 (s:GScan):GScan:=(shM (aS4 s)).2
def aS6 (s:GScan):GScan:=(shM (aS5 s)).2
def aS7 (s:GScan):GScan:=(numM (aS6 s)).2
def aS8 (s:GScan):GScan:=(dotM (aS7 s)).2
def actRd (s:GScan):GAct × GScan:=(⟨(dotM s).1,(numM (aS1 s)).1,(knowM (aS2 s)).1,(numM (aS3 s)).1,(shM (aS4 s)).1,(shM (aS5 s)).1,(numM (aS6 s)).1,(dotM (aS7 s)).1⟩,aS8 s)
theorem actRd_rdr:Rdr actRd actS:=(dotM_rdr.two (numM_rdr.two (knowM_rdr.two (numM_rdr.two (shM_rdr.two (shM_rdr.two (numM_rdr.two dotM_rdr))))))).to (fun x => ⟨x.1,x.2.1,x.2.2.1,x.2.2.2.1,x.2.2.2.2.1,x.2.2.2.2.2.1,x.2.2.2.2.2.2.1,x.2.2.2.2.2.2.2⟩) (fun s => rfl) (fun x => rfl)
theorem aS1_t (s:GScan):(aS1 s).t = s.t:=dotM_t s
theorem aS2_t (s:GScan):(aS2 s).t = s.t:=by rw [aS2,numM_t,aS1_t]
theorem aS3_t (s:GScan):(aS3 s).t = s.t:=by rw [aS3,knowM_t,aS2_t]
theorem aS4_t (s:GScan):(aS4 s).t = s.t:=by rw [aS4,numM_t,aS3_t]
theorem aS5_t (s:GScan):(aS5 s).t = s.t:=by rw [aS5,shM_t,aS4_t]
theorem aS6_t (s:GScan):(aS6 s).t = s.t:=by rw [aS6,shM_t,aS5_t]
theorem aS7_t (s:GScan):(aS7 s).t = s.t:=by rw [aS7,numM_t,aS6_t]
theorem actRd_Ok (s:GScan):(actRd s).1.Ok:=by
  have a:=kn_len (aS2 s) 3
  have b:=shM_size (aS4 s)
  have c:=shM_size (aS5 s)
  refine ⟨?_,?_,?_⟩
  · show (kn _ 3).1.length ≤ _; omega
  · show (shM _).1.size ≤ _; omega
  · show (shM _).1.size ≤ _; omega
def rdAct (t:ByteArray) (p:Int):GAct × Int × Bool:=if (actRd ⟨t,p,false⟩).2.bad = false ∧ actOk (actRd ⟨t,p,false⟩).1 = true then ((actRd ⟨t,p,false⟩).1,(actRd ⟨t,p,false⟩).2.pos,true) else (zeroAct,0,false)
@[simp] def h323:Hts:={ merge:=fun _ => false,lend:=fun f => if f = 202 ∨ f = 196 ∨ f = 313 ∨ f = 314 then [.box []] else [] }
set_option maxHeartbeats 2000000 in
theorem f323_ok (s:GScan) (ht:s.t.size ≤ 1073741824):FnW Tryz.prog 323 [.ptr [.str (s).t,.int .i64 (s).pos,.bool (s).bad]] (.agg [.int .i64 ((actRd s).1).dot.rep,.int .i64 ((actRd s).1).dot.seq,.int .i64 ((actRd s).1).time,.ow 3 1 ((actRd s).1).knew.length (flat ((actRd s).1).knew),.int .i64 ((actRd s).1).kind,.str ((actRd s).1).obj,.str ((actRd s).1).key,.int .i64 ((actRd s).1).val,.int .i64 ((actRd s).1).ref.rep,.int .i64 ((actRd s).1).ref.seq]) [.ptr [.str ((actRd s).2).t,.int .i64 ((actRd s).2).pos,.bool ((actRd s).2).bad]]:=by
  refine FnW.of_AW TryzT_ok 1 (fn:=Tryz.f323) (by kernel_rfl) rfl (by kernel_rfl) rfl rfl rfl ?_; refine AW_of h323 TryzT_ok (by kernel_rfl) ?_
  simp -dsimp
  refine ACallW_go ?_
  refine ACallC_go (fun us => f202_ok (s) (by exact ht)) ?_
  simp -dsimp
  refine ACallW_go ?_
  refine ACallC_go (fun us => f313_ok (aS1 s) (by rw [aS1_t]; exact ht)) ?_
  simp -dsimp
  refine ACallW_go ?_
  refine ACallC_go (fun us => f196_ok (aS2 s) (by rw [aS2_t]; exact ht)) ?_
  simp -dsimp
  refine ACallW_go ?_
  refine ACallC_go (fun us => f313_ok (aS3 s) (by rw [aS3_t]; exact ht)) ?_
  simp -dsimp
  refine ACallW_go ?_
  refine ACallC_go (fun us => f314_ok (aS4 s) (by rw [aS4_t]; exact ht)) ?_
  simp -dsimp
  refine ACallW_go ?_
  refine ACallC_go (fun us => f314_ok (aS5 s) (by rw [aS5_t]; exact ht)) ?_
  simp -dsimp
  refine ACallW_go ?_
  refine ACallC_go (fun us => f313_ok (aS6 s) (by rw [aS6_t]; exact ht)) ?_
  simp -dsimp
  refine ACallW_go ?_
  refine ACallC_go (fun us => f202_ok (aS7 s) (by rw [aS7_t]; exact ht)) ?_
  simp -dsimp
  exact ⟨⟨rfl,rfl,rfl,⟨rfl,rfl⟩,rfl,rfl,rfl,rfl,rfl,rfl⟩,rfl,rfl,rfl⟩
@[simp] def h217:Hts:={ merge:=fun _ => false,lend:=fun f => if f = 323 then [.box []] else [],dr:=fun id => if id = 8 then [{},{ mn:=[256] },{ mn:=[256] },{ mn:=[256] },{ mn:=[256] },{ wr:=[256] },{},{}] else [] }
set_option maxHeartbeats 4000000 in
theorem f217_ok (t:ByteArray) (p:Int) (ht:t.size ≤ 1073741824) (h0:0 ≤ p) (h1:p ≤ t.size):FnR Tryz.prog 217 [.v (.str t),.v (.int .i64 p)] (.tup [.agg [.int .i64 ((rdAct t p).1).dot.rep,.int .i64 ((rdAct t p).1).dot.seq,.int .i64 ((rdAct t p).1).time,.ow 3 1 ((rdAct t p).1).knew.length (flat ((rdAct t p).1).knew),.int .i64 ((rdAct t p).1).kind,.str ((rdAct t p).1).obj,.str ((rdAct t p).1).key,.int .i64 ((rdAct t p).1).val,.int .i64 ((rdAct t p).1).ref.rep,.int .i64 ((rdAct t p).1).ref.seq],.v (.int .i64 ((rdAct t p).2.1)),.v (.bool ((rdAct t p).2.2))]):=by
  have h0':¬ p < 0:=by omega
  have h1':¬ (t.size:Int) < p:=by omega
  have ho:=actRd_Ok ⟨t,p,false⟩
  have sg:=actRd_rdr.g ⟨t,p,false⟩ ⟨h0,h1⟩
  have c:=f323_ok ⟨t,p,false⟩ ht
  unfold rdAct
  generalize actRd ⟨t,p,false⟩ = X at *
  obtain ⟨x,⟨ft,fp,fb⟩⟩:=X
  simp only at *
  refine FnW.of_AW TryzT_ok 0 (fn:=Tryz.f217) (by kernel_rfl) rfl (by kernel_rfl) rfl rfl rfl ?_; refine AW_of h217 TryzT_ok (by kernel_rfl) ?_
  simp -dsimp [h0',h1']
  refine ACallW_go ?_
  refine ACallC_go (fun us => c) ?_
  simp -dsimp
  refine ACallK_of (f213_ok _ ho) ?_
  cases fb
  · have sg:=sg rfl
    have l:=sg.l
    have hh:=sg.h
    have e:=sg.e
    simp only at l hh e
    cases hk:actOk x
    · simp -dsimp
      simp [zeroAct]
    · simp -dsimp [h0,h1,l,hh]
      rw [actT,if_pos hk]
      exact e.symm
  · simp -dsimp
    simp [zeroAct]
@[simp] def h214:Hts:={ merge:=fun _ => false,lend:=fun f => if f = 191 ∨ f = 183 ∨ f = 300 ∨ f = 301 then [.box []] else [],dr:=fun id => if id = 13 then [{},{ mn:=[256] },{ mn:=[256] },{ mn:=[256] },{ mn:=[256] },{ wr:=[256] },{},{}] else [] }
set_option maxHeartbeats 4000000 in
theorem f214_ok (t:ByteArray) (p:Int) (ht:t.size ≤ 1073741824):FnR Tryz.prog 214 [.v (.str t),.v (.int .i64 p)] (.tup [.agg [.int .i64 ((rdAct t p).1).dot.rep,.int .i64 ((rdAct t p).1).dot.seq,.int .i64 ((rdAct t p).1).time,.ow 3 1 ((rdAct t p).1).knew.length (flat ((rdAct t p).1).knew),.int .i64 ((rdAct t p).1).kind,.str ((rdAct t p).1).obj,.str ((rdAct t p).1).key,.int .i64 ((rdAct t p).1).val,.int .i64 ((rdAct t p).1).ref.rep,.int .i64 ((rdAct t p).1).ref.seq],.v (.int .i64 ((rdAct t p).2.1)),.v (.bool ((rdAct t p).2.2))]):=by
  have ho:=actRd_Ok ⟨t,p,false⟩
  refine FnW.of_AW TryzT_ok 0 (fn:=Tryz.f214) (by kernel_rfl) rfl (by kernel_rfl) rfl rfl rfl ?_; refine AW_of h214 TryzT_ok (by kernel_rfl) ?_
  simp -dsimp
  refine ACallW_go ?_
  refine ACallC_go (fun us => f191_ok (⟨t,p,false⟩) (by exact ht)) ?_
  simp -dsimp
  refine ACallW_go ?_
  refine ACallC_go (fun us => f300_ok (aS1 ⟨t,p,false⟩) (by rw [aS1_t]; exact ht)) ?_
  simp -dsimp
  refine ACallW_go ?_
  refine ACallC_go (fun us => f183_ok (aS2 ⟨t,p,false⟩) (by rw [aS2_t]; exact ht)) ?_
  simp -dsimp
  refine ACallW_go ?_
  refine ACallC_go (fun us => f300_ok (aS3 ⟨t,p,false⟩) (by rw [aS3_t]; exact ht)) ?_
  simp -dsimp
  refine ACallW_go ?_
  refine ACallC_go (fun us => f301_ok (aS4 ⟨t,p,false⟩) (by rw [aS4_t]; exact ht)) ?_
  simp -dsimp
  refine ACallW_go ?_
  refine ACallC_go (fun us => f301_ok (aS5 ⟨t,p,false⟩) (by rw [aS5_t]; exact ht)) ?_
  simp -dsimp
  refine ACallW_go ?_
  refine ACallC_go (fun us => f300_ok (aS6 ⟨t,p,false⟩) (by rw [aS6_t]; exact ht)) ?_
  simp -dsimp
  refine ACallW_go ?_
  refine ACallC_go (fun us => f191_ok (aS7 ⟨t,p,false⟩) (by rw [aS7_t]; exact ht)) ?_
  unfold rdAct
  cases hb:(dotM (aS7 ⟨t,p,false⟩)).2.bad
  · have hb':(actRd ⟨t,p,false⟩).2.bad = false:=hb
    simp -dsimp [hb]
    refine ACallK_of (f158_ok (actRd ⟨t,p,false⟩).1 ho) ?_
    cases hk:actOk (actRd ⟨t,p,false⟩).1
    · simp -dsimp
      simp [hb',hk,zeroAct]
    · simp -dsimp
      simp [hb',hk]
      exact ⟨⟨rfl,rfl,rfl,⟨rfl,rfl⟩,rfl,rfl,rfl,rfl,rfl,rfl⟩,rfl⟩
  · have hb':(actRd ⟨t,p,false⟩).2.bad = true:=hb
    simp -dsimp [hb]
    simp [hb',zeroAct]
end Am
namespace Am
open Go Go.Proofs
open Cel (cells)
set_option maxRecDepth 100000
def GUnit.empty:GUnit:=⟨false,zeroAct,zeroDelta⟩
def rdUnM (t:ByteArray):GUnit × Bool :=
  if unOk t = true ∧ 0 < (unS t).size then
    if bt (unS t) 0 = 0 then
      if (rdAct (unS t) 1).2.2 = true ∧ (rdAct (unS t) 1).2.1 = (unS t).size then (⟨false,(rdAct (unS t) 1).1,zeroDelta⟩,true) else (GUnit.empty,false)
    else if bt (unS t) 0 = 1 then
      if (rs (unS t) 1).isSome = true ∧ (rdDlM (rsS (rs (unS t) 1))).2 = true ∧ rsN (rs (unS t) 1) = (unS t).size then (⟨true,zeroAct,(rdDlM (rsS (rs (unS t) 1))).1⟩,true) else (GUnit.empty,false)
    else (GUnit.empty,false)
  else (GUnit.empty,false)
def bk (u:GUnit) (t:ByteArray):Prop:=unitTextOk u = true ∧ unitText u = t
instance (u:GUnit) (t:ByteArray):Decidable (bk u t):=inferInstanceAs (Decidable (_ ∧ _))
def rdUnS (t:ByteArray):GUnit × Bool :=
  if unOk t = true ∧ 0 < (unS t).size then
    if bt (unS t) 0 = 1 then
      if ((rdDlM (rsS (rs (unS t) 1))).2 = true ∧ (rs (unS t) 1).isSome = true) ∧ bk ⟨true,zeroAct,(rdDlM (rsS (rs (unS t) 1))).1⟩ t then (⟨true,zeroAct,(rdDlM (rsS (rs (unS t) 1))).1⟩,true) else (GUnit.empty,false)
    else
      if (rdAct (unS t) 1).2.2 = true ∧ bk ⟨false,(rdAct (unS t) 1).1,zeroDelta⟩ t then (⟨false,(rdAct (unS t) 1).1,zeroDelta⟩,true) else (GUnit.empty,false)
  else (GUnit.empty,false)
theorem rdDl_facts {x:ByteArray} (h:(rdDlM x).2 = true):deltaOk (rdDlM x).1 = true ∧ deltaTextOk (rdDlM x).1 = true ∧ deltaText (rdDlM x).1 = x:=by
  rw [← rdDl_eq] at h ⊢
  unfold rdDlS resDS at h ⊢
  split at h
  · rename_i hc
    rw [if_pos hc]
    refine ⟨hc.2.1.1,by simp only [deltaTextOk,hc.2.1.1,hc.2.1.2]; rfl,?_⟩
    rw [deltaText,if_pos hc.2.1.1]
    exact hc.2.2
  · cases h
theorem rdAct_facts {t:ByteArray} {p:Int} (h0:0 ≤ p) (h1:p ≤ t.size) (h:(rdAct t p).2.2 = true):actOk (rdAct t p).1 = true ∧ p ≤ (rdAct t p).2.1 ∧ (rdAct t p).2.1 ≤ t.size ∧ t.extract p.toNat (rdAct t p).2.1.toNat = actS (rdAct t p).1:=by
  have sg:=actRd_rdr.g ⟨t,p,false⟩ ⟨h0,h1⟩
  unfold rdAct at h ⊢
  split at h
  · rename_i hc
    rw [if_pos hc]
    have sg:=sg hc.1
    exact ⟨hc.2,sg.l,sg.h,sg.e⟩
  · cases h
theorem rdAct_Ok (t:ByteArray) (p:Int):(rdAct t p).1.Ok:=by
  unfold rdAct
  split
  · exact actRd_Ok _
  · simp [zeroAct,GAct.Ok]; decide
theorem unit_iff {u:GUnit} {t:ByteArray} (hu:unOk t = true) (ho:unitTOk u = true):bk u t ↔ unS t = unitS u:=by
  unfold bk unitTextOk unitText
  rw [if_pos ho,ho,Bool.true_and]
  constructor
  · rintro ⟨h1,h2⟩; exact seal_unS h1 h2 hu
  · intro h
    have:=unS_seal hu
    rw [h] at this
    exact ⟨this.2,this.1⟩
theorem lead {x:ByteArray} (h:0 < x.size):x = str [u8 (bt x 0)] ++ x.extract 1 x.size:=by
  obtain ⟨c,h1,h2⟩:=bt_at (t:=x) (k:=0) h
  have h2':bt x 0 = c.toNat:=h2
  rw [h2',u8_toNat,extract_str]
  apply ByteArray.ext
  apply Array.ext'
  rw [ByteArray.data_append]
  have e:x.data.toList = c :: x.data.toList.drop 1:=by simpa using h1
  have e2:(x.data.toList.drop 1).take (x.size - 1) = x.data.toList.drop 1:=by
    apply List.take_of_length_le
    rw [List.length_drop]
    exact Nat.le_refl _
  rw [e2]
  simp only [str,Array.toList_append]
  exact e
theorem bt_lead {c:UInt8} {y:ByteArray}:bt (str [c] ++ y) 0 = c.toNat:=by
  have hs:0 < (str [c] ++ y).size:=by rw [ByteArray.size_append,str_size]; simp; omega
  obtain ⟨d,h1,h2⟩:=bt_at (t:=str [c] ++ y) (k:=0) hs
  have h2':bt (str [c] ++ y) 0 = d.toNat:=h2
  rw [h2']
  rw [ByteArray.data_append] at h1
  simp [str] at h1
  rw [h1]
theorem whole_iff {x y:ByteArray} {n:Int} {c:UInt8} (hs:0 < x.size) (hc:u8 (bt x 0) = c) (h1:1 ≤ n) (h2:n ≤ x.size) (he:x.extract 1 n.toNat = y):x = str [c] ++ y ↔ n = x.size:=by
  have hy:y.size = n.toNat - 1:=by rw [← he,ByteArray.size_extract]; omega
  constructor
  · intro h
    have:=congrArg ByteArray.size h
    rw [ByteArray.size_append,str_size,hy] at this
    simp at this
    omega
  · intro h
    have e:=lead hs
    rw [hc] at e
    have:n.toNat = x.size:=by omega
    rw [this] at he
    rw [he] at e
    exact e
theorem rs_facts {t:ByteArray} (h:(rs t 1).isSome = true):1 ≤ rsN (rs t 1) ∧ rsN (rs t 1) ≤ t.size ∧ t.extract 1 (rsN (rs t 1)).toNat = shortS (rsS (rs t 1)):=by
  cases g:rs t 1 with
  | none => rw [g] at h; cases h
  | some x =>
    obtain ⟨y,a⟩:=x
    obtain ⟨n,b,h1,h2,h3,rfl,rfl⟩:=rs_spec g
    have sp:=rd_spec h1
    refine ⟨by simp only [rsN]; omega,by simp only [rsN]; omega,?_⟩
    simp only [rsN,rsS]
    have e:((t.extract b.toNat (b + n).toNat).size:Int) = n:=by
      rw [ByteArray.size_extract]; omega
    have e2:=rd_canon h1
    rw [shortS,e,← e2,ByteArray.extract_append_extract]
    congr 1 <;> omega
theorem rdUn_eq (t:ByteArray):rdUnS t = rdUnM t:=by
  unfold rdUnS rdUnM
  by_cases hc:unOk t = true ∧ 0 < (unS t).size
  · rw [if_pos hc,if_pos hc]
    by_cases b1:bt (unS t) 0 = 1
    · have b0:¬ bt (unS t) 0 = 0:=by omega
      rw [if_pos b1,if_neg b0,if_pos b1]
      by_cases hr:(rs (unS t) 1).isSome = true
      · by_cases hd:(rdDlM (rsS (rs (unS t) 1))).2 = true
        · obtain ⟨f1,f2,f3⟩:=rdDl_facts hd
          have ho:unitTOk ⟨true,zeroAct,(rdDlM (rsS (rs (unS t) 1))).1⟩ = true:=by simp [unitTOk,unitOk,f1,f2]
          have hi:=unit_iff hc.1 ho
          obtain ⟨g1,g2,g3⟩:=rs_facts hr
          have hw:=whole_iff (c:=1) hc.2 (by rw [b1]; rfl) g1 g2 g3
          have e:unitS ⟨true,zeroAct,(rdDlM (rsS (rs (unS t) 1))).1⟩ = str [1] ++ shortS (rsS (rs (unS t) 1)):=by
            simp only [unitS,if_true,f3]; rfl
          rw [e,hw] at hi
          by_cases hn:rsN (rs (unS t) 1) = (unS t).size
          · rw [if_pos ⟨⟨hd,hr⟩,hi.2 hn⟩,if_pos ⟨hr,hd,hn⟩]
          · rw [if_neg fun h => hn (hi.1 h.2),if_neg fun h => hn h.2.2]
        · rw [if_neg fun h => hd h.1.1,if_neg fun h => hd h.2.1]
      · rw [if_neg fun h => hr h.1.2,if_neg fun h => hr h.1]
    · rw [if_neg b1]
      by_cases ha:(rdAct (unS t) 1).2.2 = true
      · obtain ⟨g0,g1,g2,g3⟩:=rdAct_facts (by omega) (by omega) ha
        have ho:unitTOk ⟨false,(rdAct (unS t) 1).1,zeroDelta⟩ = true:=by simp [unitTOk,unitOk,g0]
        have hi:=unit_iff hc.1 ho
        have e:unitS ⟨false,(rdAct (unS t) 1).1,zeroDelta⟩ = str [0] ++ actS (rdAct (unS t) 1).1:=by
          simp [unitS]; rfl
        rw [e] at hi
        by_cases b0:bt (unS t) 0 = 0
        · rw [if_pos b0]
          have hw:=whole_iff (c:=0) hc.2 (by rw [b0]; rfl) g1 g2 g3
          rw [hw] at hi
          by_cases hn:(rdAct (unS t) 1).2.1 = (unS t).size
          · rw [if_pos ⟨ha,hi.2 hn⟩,if_pos ⟨ha,hn⟩]
          · rw [if_neg fun h => hn (hi.1 h.2),if_neg fun h => hn h.2]
        · rw [if_neg b0,if_neg b1,if_neg fun h => b0 (by rw [hi.1 h.2,bt_lead]; rfl)]
      · rw [if_neg fun h => ha h.1]
        split
        · rw [if_neg fun h => ha h.1]
        · rfl
  · rw [if_neg hc,if_neg hc]
theorem rdDlM_Ok (t:ByteArray):(rdDlM t).1.Ok:=by
  unfold rdDlM resDM
  split
  · exact dlM_Ok _
  · simp [GDelta.empty,GDelta.Ok]
end Am
namespace Am
open Go Go.Proofs
open Cel (cells)
set_option maxRecDepth 100000
theorem rsS_size (t:ByteArray) (p:Int):(rsS (rs t p)).size ≤ 20000:=by
  cases g:rs t p with
  | none => exact Nat.zero_le _
  | some x =>
    obtain ⟨y,a⟩:=x
    obtain ⟨n,b,h1,h2,h3,rfl,rfl⟩:=rs_spec g
    have:=rd_spec h1
    simp only [rsS,ByteArray.size_extract]
    omega
@[simp] def h76:Hts:={ merge:=fun _ => false }
set_option maxHeartbeats 4000000 in
theorem f76_ok (t:ByteArray) (ht:t.size ≤ 1073741824):FnR Tryz.prog 76 [.v (.str t)] (.tup [.agg [.bool ((rdUnM t).1).batch,.int .i64 ((rdUnM t).1).act.dot.rep,.int .i64 ((rdUnM t).1).act.dot.seq,.int .i64 ((rdUnM t).1).act.time,.ow 3 1 ((rdUnM t).1).act.knew.length (flat ((rdUnM t).1).act.knew),.int .i64 ((rdUnM t).1).act.kind,.str ((rdUnM t).1).act.obj,.str ((rdUnM t).1).act.key,.int .i64 ((rdUnM t).1).act.val,.int .i64 ((rdUnM t).1).act.ref.rep,.int .i64 ((rdUnM t).1).act.ref.seq,.ow 3 1 ((rdUnM t).1).delta.base.length (flat ((rdUnM t).1).delta.base),.ow 3 1 ((rdUnM t).1).delta.know.length (flat ((rdUnM t).1).delta.know),.ow 179 3 ((rdUnM t).1).delta.tallies.length (flat ((rdUnM t).1).delta.tallies),.ow 159 6 ((rdUnM t).1).delta.lives.length (flat ((rdUnM t).1).delta.lives),.ow 29 2 ((rdUnM t).1).delta.dead.length (flat ((rdUnM t).1).delta.dead),.ow 72 8 ((rdUnM t).1).delta.cs.length (flat ((rdUnM t).1).delta.cs)],.v (.bool ((rdUnM t).2))]):=by
  have hu:=unS_size t
  refine FnW.of_AW TryzT_ok 0 (fn:=Tryz.f76) (by kernel_rfl) rfl (by kernel_rfl) rfl rfl rfl ?_; refine AW_of h76 TryzT_ok (by kernel_rfl) ?_
  simp -dsimp
  refine ACallK_of (f182_ok _ ht) ?_
  cases ho:unOk t
  · have hR:rdUnM t = (GUnit.empty,false):=by simp [rdUnM,ho]
    simp -dsimp
    simp [hR,GUnit.empty,zeroAct,zeroDelta]
  rcases Nat.eq_zero_or_pos (unS t).size with hx | hx
  · have hx0:unS t = ⟨#[]⟩:=ByteArray.size_eq_zero_iff.1 hx
    have hR:rdUnM t = (GUnit.empty,false):=by unfold rdUnM; rw [if_neg (by omega)]
    simp -dsimp [hx0]
    simp [hR,GUnit.empty,zeroAct,zeroDelta]
  · have hx0:¬ unS t = ⟨#[]⟩:=by intro h; rw [h] at hx; cases hx
    have hR:rdUnM t = rdUnM t:=rfl
    conv at hR => rhs; rw [rdUnM,if_pos (show unOk t = true ∧ 0 < (unS t).size from ⟨ho,hx⟩)]
    have hx2:¬ (unS t).toList = []:=by
      intro h
      have h2:=str_beq (unS t) ⟨#[]⟩
      rw [h] at h2
      exact hx0 (by simpa using h2.symm)
    have hx3:(unS t).toList.isEmpty = false:=by simpa using hx2
    have hx1:(1:Int) ≤ (unS t).size:=by omega
    by_cases b0:bt (unS t) 0 = 0
    · rw [if_pos b0] at hR
      simp -dsimp [hx3,hx,b0]
      refine ACallK_of (f214_ok _ 1 (by omega)) ?_
      generalize hA:rdAct (unS t) 1 = A at *
      obtain ⟨a,n,k⟩:=A
      simp only at hR
      cases k
      · simp -dsimp
        simp [hR,GUnit.empty,zeroAct,zeroDelta]
      · by_cases hn:n = (unS t).size
        · have hn2:(n == ((unS t).size:Int)) = true:=by simp [hn]
          simp -dsimp [hn2]
          simp [hR,hn,zeroDelta]
        · have hn2:(n == ((unS t).size:Int)) = false:=by simp [hn]
          simp -dsimp [hn2]
          simp [hR,hn,GUnit.empty,zeroAct,zeroDelta]
    · rw [if_neg b0] at hR
      by_cases b1:bt (unS t) 0 = 1
      · rw [if_pos b1] at hR
        simp -dsimp [hx3,hx,b0,b1]
        refine ACallK_of (f215_ok _ 1 (by omega)) ?_
        simp -dsimp
        have hq:=rsS_size (unS t) 1
        refine ACallK_of (f65_ok _ (by omega)) ?_
        generalize rdDlM (rsS (rs (unS t) 1)) = D at *
        obtain ⟨d,k⟩:=D
        generalize rsN (rs (unS t) 1) = n at *
        simp only at hR
        cases hi:(rs (unS t) 1).isSome
        · rw [hi] at hR
          simp -dsimp
          simp [hR,GUnit.empty,zeroAct,zeroDelta]
        · rw [hi] at hR
          cases k
          · simp -dsimp
            simp [hR,GUnit.empty,zeroAct,zeroDelta]
          · by_cases hn:n = (unS t).size
            · have hn2:(n == ((unS t).size:Int)) = true:=by simp [hn]
              simp -dsimp [hn2]
              simp [hR,hn,zeroAct]
            · have hn2:(n == ((unS t).size:Int)) = false:=by simp [hn]
              simp -dsimp [hn2]
              simp [hR,hn,GUnit.empty,zeroAct,zeroDelta]
      · rw [if_neg b1] at hR
        simp -dsimp [hx3,hx,b0,b1]
        simp [hR,GUnit.empty,zeroAct,zeroDelta]
@[simp] def h78:Hts:={ merge:=fun _ => false }
set_option maxHeartbeats 4000000 in
theorem f78_ok (t:ByteArray) (ht:t.size ≤ 1073741824):FnR Tryz.prog 78 [.v (.str t)] (.tup [.agg [.bool ((rdUnS t).1).batch,.int .i64 ((rdUnS t).1).act.dot.rep,.int .i64 ((rdUnS t).1).act.dot.seq,.int .i64 ((rdUnS t).1).act.time,.ow 3 1 ((rdUnS t).1).act.knew.length (flat ((rdUnS t).1).act.knew),.int .i64 ((rdUnS t).1).act.kind,.str ((rdUnS t).1).act.obj,.str ((rdUnS t).1).act.key,.int .i64 ((rdUnS t).1).act.val,.int .i64 ((rdUnS t).1).act.ref.rep,.int .i64 ((rdUnS t).1).act.ref.seq,.ow 3 1 ((rdUnS t).1).delta.base.length (flat ((rdUnS t).1).delta.base),.ow 3 1 ((rdUnS t).1).delta.know.length (flat ((rdUnS t).1).delta.know),.ow 179 3 ((rdUnS t).1).delta.tallies.length (flat ((rdUnS t).1).delta.tallies),.ow 159 6 ((rdUnS t).1).delta.lives.length (flat ((rdUnS t).1).delta.lives),.ow 29 2 ((rdUnS t).1).delta.dead.length (flat ((rdUnS t).1).delta.dead),.ow 72 8 ((rdUnS t).1).delta.cs.length (flat ((rdUnS t).1).delta.cs)],.v (.bool ((rdUnS t).2))]):=by
  have hu:=unS_size t
  refine FnW.of_AW TryzT_ok 0 (fn:=Tryz.f78) (by kernel_rfl) rfl (by kernel_rfl) rfl rfl rfl ?_; refine AW_of h78 TryzT_ok (by kernel_rfl) ?_
  simp -dsimp
  refine ACallK_of (f194_ok _ ht) ?_
  cases ho:unOk t
  · have hR:rdUnS t = (GUnit.empty,false):=by simp [rdUnS,ho]
    simp -dsimp
    simp [hR,GUnit.empty,zeroAct,zeroDelta]
  rcases Nat.eq_zero_or_pos (unS t).size with hx | hx
  · have hx0:unS t = ⟨#[]⟩:=ByteArray.size_eq_zero_iff.1 hx
    have hR:rdUnS t = (GUnit.empty,false):=by unfold rdUnS; rw [if_neg (by omega)]
    simp -dsimp [hx]
    simp [hR,GUnit.empty,zeroAct,zeroDelta]
  · have hx1:¬ (unS t).size = 0:=by omega
    have hR:rdUnS t = rdUnS t:=rfl
    conv at hR => rhs; rw [rdUnS,if_pos (show unOk t = true ∧ 0 < (unS t).size from ⟨ho,hx⟩)]
    have hx4:(1:Int) ≤ (unS t).size:=by omega
    by_cases b1:bt (unS t) 0 = 1
    · rw [if_pos b1] at hR
      simp -dsimp [hx1,hx,b1]
      refine ACallK_of (f216_ok _ 1 (by omega)) ?_
      simp -dsimp
      have hq:=rsS_size (unS t) 1
      refine ACallK_of (f69_ok _ (by omega)) ?_
      rw [rdDl_eq]
      have hoD:=rdDlM_Ok (rsS (rs (unS t) 1))
      generalize rdDlM (rsS (rs (unS t) 1)) = D at *
      obtain ⟨d,k⟩:=D
      simp only at hR
      have hoU:(⟨true,zeroAct,d⟩:GUnit).Ok:=⟨by simp [zeroAct,GAct.Ok]; decide,hoD⟩
      cases k
      · simp -dsimp
        refine ACallK_of (f75_ok _ hoU) ?_
        simp -dsimp
        simp [hR,GUnit.empty,zeroAct,zeroDelta]
      · cases hi:(rs (unS t) 1).isSome
        · rw [hi] at hR
          simp -dsimp
          refine ACallK_of (f75_ok _ hoU) ?_
          simp -dsimp
          simp [hR,GUnit.empty,zeroAct,zeroDelta]
        · rw [hi] at hR
          simp -dsimp
          refine ACallK_of (f75_ok _ hoU) ?_
          cases hg:unitTextOk ⟨true,zeroAct,d⟩
          · simp -dsimp [hg]
            simp [hR,bk,hg,GUnit.empty]
            simp [zeroAct,zeroDelta]
          · by_cases he:unitText ⟨true,zeroAct,d⟩ = t
            · simp -dsimp [hg,he]
              simp [hR,bk,hg,he]
              simp [zeroAct]
            · simp -dsimp [hg,he]
              simp [hR,bk,hg,he,GUnit.empty]
              simp [zeroAct,zeroDelta]
    · rw [if_neg b1] at hR
      simp -dsimp [hx1,hx,b1]
      refine ACallK_of (f217_ok _ 1 (by omega) (by omega) (by omega)) ?_
      have hoA:=rdAct_Ok (unS t) 1
      generalize hA:rdAct (unS t) 1 = A at *
      obtain ⟨a,n,k⟩:=A
      simp only at hR
      have hoU:(⟨false,a,zeroDelta⟩:GUnit).Ok:=⟨hoA,by simp [zeroDelta,GDelta.Ok]⟩
      simp -dsimp
      refine ACallK_of (f75_ok _ hoU) ?_
      cases k
      · simp -dsimp
        simp [hR,GUnit.empty,zeroAct,zeroDelta]
      · cases hg:unitTextOk ⟨false,a,zeroDelta⟩
        · simp -dsimp [hg]
          simp [hR,bk,hg,GUnit.empty]
          simp [zeroAct,zeroDelta]
        · by_cases he:unitText ⟨false,a,zeroDelta⟩ = t
          · simp -dsimp [hg,he]
            simp [hR,bk,hg,he]
            simp [zeroDelta]
          · simp -dsimp [hg,he]
            simp [hR,bk,hg,he,GUnit.empty]
            simp [zeroAct,zeroDelta]
end Am
namespace Am
open Go
structure Here (s:GScan) (y:List UInt8):Prop where
  b:s.bad = false
  l:0 ≤ s.pos
  h:s.pos ≤ s.t.size
  d:s.t.data.toList.drop s.pos.toNat = y
structure Fwd {α:Type} (r:GScan → α × GScan) (w:α → ByteArray) (p:α → Prop):Prop where
  g:∀ x,p x → ∀ s y,Here s ((w x).data.toList ++ y) → (r s).1 = x ∧ Here (r s).2 y ∧ (r s).2.t = s.t
theorem app_list (a b:ByteArray):(a ++ b).data.toList = a.data.toList ++ b.data.toList:=by
  rw [ByteArray.data_append,Array.toList_append]
theorem size_list (a:ByteArray):a.data.toList.length = a.size:=Array.length_toList
theorem decL_var (n:Nat):decL (varB n) = n:=by
  by_cases h:n ≤ 127
  · rw [varB_small h]
    simp only [decL,u8_small h]
    omega
  · rw [varB_great h]
    have ih:=decL_var (n / 128)
    have e:(u8 ((n:Int) % 128 + 128)).toNat = n % 128 + 128:=by
      unfold u8
      rw [UInt8.toNat_ofNat']
      omega
    simp only [decL,e,ih]
    omega
termination_by n
decreasing_by omega
theorem rvGo_fwd (y:List UInt8) (n:Nat) (f:Nat) (ds:List UInt8) (hf:(varB n).length ≤ f) (h0:ds = [] ∨ n ≠ 0) (hb:decL (ds ++ varB n) ≤ 1000000000) :
    rvGo (varB n ++ y) ds f = some (decL (ds ++ varB n),ds.length + (varB n).length):=by
  by_cases h:n ≤ 127
  · rw [varB_small h] at hf hb ⊢
    match f,hf with
    | f + 1,_ =>
      have e:=u8_small h
      show (if 127 < (u8 (n:Int)).toNat then _ else _) = _
      rw [if_neg (by omega),if_neg]
      · rfl
      · rintro (⟨h1,h2⟩ | h2)
        · rcases h0 with h0 | h0
          · exact h1 h0
          · exact h0 (by omega)
        · omega
  · rw [varB_great h] at hf hb ⊢
    have e:(u8 ((n:Int) % 128 + 128)).toNat = n % 128 + 128:=by
      unfold u8
      rw [UInt8.toNat_ofNat']
      omega
    match f,hf with
    | f + 1,hf =>
      show (if 127 < (u8 ((n:Int) % 128 + 128)).toNat then _ else _) = _
      rw [if_pos (by omega)]
      have ea:ds ++ u8 ((n:Int) % 128 + 128) :: varB (n / 128) = (ds ++ [u8 ((n:Int) % 128 + 128)]) ++ varB (n / 128):=by simp
      rw [ea] at hb ⊢
      show rvGo (varB (n / 128) ++ y) _ f = _
      have:=rvGo_fwd y (n / 128) f (ds ++ [u8 ((n:Int) % 128 + 128)]) (by simpa using hf) (.inr (by omega)) hb
      rw [this]
      simp only [List.length_append,List.length_cons,List.length_nil]
      congr 2
      omega
termination_by n
decreasing_by omega
theorem numM_fwd:Fwd numM varS numOk where
  g:=by
    rintro n ⟨n0,n1⟩ s y ⟨hb,hl,hh,hd⟩
    have ev:(varS n).data.toList = varB n.toNat:=by simp [varS,str]
    rw [ev] at hd
    have e:rd s.t s.pos = some (n,s.pos + (varB n.toNat).length):=by
      unfold rd
      rw [if_pos ⟨hl,hh⟩,hd,rvGo_fwd y n.toNat 5 [] (varB_five (by omega)) (.inl rfl) (by rw [List.nil_append,decL_var]; omega)]
      simp only [List.nil_append,decL_var,Option.map_some,List.length_nil,Nat.zero_add]
      congr 2
      omega
    have el:s.pos.toNat + (varB n.toNat).length + y.length = s.t.size:=by
      have:=congrArg List.length hd
      rw [List.length_drop,size_list,List.length_append] at this
      omega
    unfold numM
    rw [if_neg (by simp [hb]),e]
    refine ⟨rfl,⟨rfl,by simp only; omega,by simp only; omega,?_⟩,rfl⟩
    simp only
    rw [show (s.pos + ((varB n.toNat).length:Int)).toNat = s.pos.toNat + (varB n.toNat).length by omega,← List.drop_drop,hd,List.drop_left]
theorem shM_fwd:Fwd shM shortS fun x => x.size ≤ 20000 where
  g:=by
    intro x hx s y hH
    have hb:=hH.b
    have e1:(shortS x).data.toList ++ y = (varS x.size).data.toList ++ (x.data.toList ++ y):=by rw [shortS,app_list,List.append_assoc]
    rw [e1] at hH
    obtain ⟨g1,g2,g3⟩:=numM_fwd.g x.size ⟨by omega,by omega⟩ s _ hH
    have e2:∃ a,rd s.t s.pos = some ((x.size:Int),a) ∧ (numM s).2.pos = a:=by
      unfold numM at g1 g2 ⊢
      rw [if_neg (by simp [hb])] at g1 g2 ⊢
      cases q:rd s.t s.pos with
      | none => rw [q] at g2; exact absurd g2.b (by simp)
      | some z =>
        obtain ⟨m,a⟩:=z
        rw [q] at g1
        simp only at g1
        exact ⟨a,by rw [g1],rfl⟩
    obtain ⟨a,e2,e3⟩:=e2
    have sp:=rd_spec e2
    obtain ⟨h1,h2,h3,h4⟩:=g2
    rw [e3] at h2 h3 h4
    rw [g3] at h3 h4
    have el:a.toNat + x.size + y.length = s.t.size:=by
      have:=congrArg List.length h4
      rw [List.length_drop,size_list,List.length_append,size_list] at this
      omega
    have e4:s.t.extract a.toNat (a + x.size).toNat = x:=by
      apply ByteArray.ext
      apply Array.toList_inj.1
      rw [ByteArray.data_extract,Array.toList_extract,List.extract_eq_take_drop,h4,List.take_append_of_le_length (by rw [size_list]; omega)]
      rw [show (a + (x.size:Int)).toNat - a.toNat = x.data.toList.length by rw [size_list]; omega,List.take_length]
    unfold shM
    rw [if_neg (by simp [hb])]
    have e5:rs s.t s.pos = some (x,a + x.size):=by
      unfold rs
      rw [e2]
      simp only
      rw [if_neg (by omega),e4]
    rw [e5]
    refine ⟨rfl,⟨rfl,by simp only; omega,by simp only; omega,?_⟩,rfl⟩
    simp only
    rw [show (a + (x.size:Int)).toNat = a.toNat + x.data.toList.length by rw [size_list]; omega,← List.drop_drop,h4,List.drop_left]
theorem Fwd.two {α β:Type} {r:GScan → α × GScan} {q:GScan → β × GScan} {w:α → ByteArray} {v:β → ByteArray} {p:α → Prop} {p':β → Prop} (a:Fwd r w p) (b:Fwd q v p') :
    Fwd (fun s => (((r s).1,(q (r s).2).1),(q (r s).2).2)) (fun x => w x.1 ++ v x.2) (fun x => p x.1 ∧ p' x.2) where
  g:=fun x hp s y h => by
    rw [app_list,List.append_assoc] at h
    obtain ⟨g1,g2,g3⟩:=a.g x.1 hp.1 s _ h
    obtain ⟨k1,k2,k3⟩:=b.g x.2 hp.2 _ _ g2
    exact ⟨by rw [g1,k1],k2,by rw [k3,g3]⟩
theorem Fwd.to {α β:Type} {r:GScan → α × GScan} {q:GScan → β × GScan} {w:α → ByteArray} {v:β → ByteArray} {p:α → Prop} {p':β → Prop} (a:Fwd r w p) (k:α → β) (j:β → α) (h:∀ s,q s = (k (r s).1,(r s).2)) (hw:∀ x,v x = w (j x)) (hk:∀ x,k (j x) = x) (hp:∀ x,p' x → p (j x)):Fwd q v p' where
  g:=fun x hx s y hH => by
    rw [hw] at hH
    obtain ⟨g1,g2,g3⟩:=a.g (j x) (hp x hx) s y hH
    rw [h]
    exact ⟨by simp only [g1,hk],g2,g3⟩
theorem dotM_fwd:Fwd dotM dotS dotR:=(numM_fwd.two numM_fwd).to (fun x => ⟨x.1,x.2⟩) (fun x => (x.rep,x.seq)) (fun s => rfl) (fun x => rfl) (fun x => rfl) (fun x h => h)
theorem flagM_fwd:Fwd flagM flagS fun _ => True where
  g:=fun x _ s y hH => by
    have e:flagS x = varS (cond x 1 0):=by
      cases x
      · exact flag_num 0 (by decide) (by decide)
      · exact flag_num 1 (by decide) (by decide)
    rw [e] at hH
    obtain ⟨g1,g2,g3⟩:=numM_fwd.g (cond x 1 0) (by cases x <;> simp [numOk]) s y hH
    unfold flagM
    rw [g1,if_neg (by cases x <;> decide)]
    exact ⟨by cases x <;> rfl,g2,g3⟩
theorem talM_fwd:Fwd talM talS talR:=(shM_fwd.two (numM_fwd.two numM_fwd)).to (fun x => ⟨x.1,x.2.1,x.2.2⟩) (fun x => (x.obj,x.rep,x.sum)) (fun s => rfl) (fun x => rfl) (fun x => rfl) (fun x h => ⟨Nat.le_trans h.1 (by decide),h.2⟩)
theorem liveM_fwd:Fwd (liveM flagM) liveS liveR:=(flagM_fwd.two ((shM_fwd.two shM_fwd).two (numM_fwd.two dotM_fwd))).to (fun x => ⟨x.1,x.2.1.1,x.2.1.2,x.2.2.1,x.2.2.2⟩) (fun x => (x.map,(x.obj,x.key),x.val,x.dot)) (fun s => rfl) (fun x => rfl) (fun x => rfl) (fun x h => ⟨trivial,⟨Nat.le_trans h.1 (by decide),Nat.le_trans h.2.1 (by decide)⟩,h.2.2⟩)
theorem cellM_fwd:Fwd (cellM flagM) cellS cellR:=(shM_fwd.two (dotM_fwd.two (numM_fwd.two (dotM_fwd.two (numM_fwd.two flagM_fwd))))).to (fun x => ⟨x.1,x.2.1,x.2.2.1,x.2.2.2.1,x.2.2.2.2.1,x.2.2.2.2.2⟩) (fun x => (x.obj,x.dot,x.time,x.ref,x.val,x.gone)) (fun s => rfl) (fun x => rfl) (fun x => rfl) (fun x h => ⟨Nat.le_trans h.1 (by decide),h.2.1,h.2.2.1,h.2.2.2.1,h.2.2.2.2,trivial⟩)
section
variable {α:Type} [Cel α] {r:GScan → α × GScan} {w:α → ByteArray} {p:α → Prop}
theorem lsM_fwd (hr:Fwd r w p) {l:List α} (hp:∀ i:Nat,i < l.length → p (nth l i)) (s:GScan):∀ (n:Nat) (y:List UInt8),n ≤ l.length → Here s ((catN (fun i => w (nth l i)) n).data.toList ++ y) →
    (lsM r s n).1 = l.take n ∧ Here (lsM r s n).2 y ∧ (lsM r s n).2.t = s.t
  | 0,y,_,h => ⟨rfl,by show Here s y; simpa [catN] using h,rfl⟩
  | n + 1,y,hn,h => by
    rw [catN,app_list,List.append_assoc] at h
    obtain ⟨g1,g2,g3⟩:=lsM_fwd hr hp s n _ (by omega) h
    obtain ⟨k1,k2,k3⟩:=hr.g _ (hp n (by omega)) _ _ g2
    refine ⟨?_,k2,by rw [lsM,k3,g3]⟩
    simp only [lsM,g1,k1]
    rw [List.take_add_one,nth_eq (by omega),List.getElem?_eq_getElem (by omega)]; rfl
theorem cntM_fwd {n:Nat} (hn:n ≤ 120) {s:GScan} {y:List UInt8} (h:Here s ((varS n).data.toList ++ y)):(cntM s).1 = n ∧ Here (cntM s).2 y ∧ (cntM s).2.t = s.t:=by
  have:=numM_fwd.g n ⟨by omega,by omega⟩ s y h
  unfold cntM
  rw [if_neg (by rw [this.1]; omega)]
  exact this
theorem liM_fwd (hr:Fwd r w p):Fwd (liM r) (lisS w) (fun l => l.length ≤ 120 ∧ ∀ i:Nat,i < l.length → p (nth l i)) where
  g:=fun l hl s y h => by
    rw [lisS,app_list,List.append_assoc] at h
    obtain ⟨g1,g2,g3⟩:=cntM_fwd hl.1 h
    unfold liM
    rw [g1,Int.toNat_natCast]
    obtain ⟨k1,k2,k3⟩:=lsM_fwd hr hl.2 (cntM s).2 l.length y (Nat.le_refl _) g2
    exact ⟨by rw [k1,List.take_length],k2,by rw [k3,g3]⟩
end
theorem knowM_fwd:Fwd knowM varsS (fun k => k.length = 3 ∧ ∀ i:Nat,i < k.length → numOk (nth k i)) where
  g:=fun k hk s y h => by
    have h:Here s ((catN (fun i => varS (nth k i)) k.length).data.toList ++ y):=h
    have:=lsM_fwd numM_fwd hk.2 s k.length y (Nat.le_refl _) h
    unfold knowM
    rw [kn_ls,← hk.1]
    exact ⟨by rw [this.1,List.take_length],this.2⟩
theorem dlM_fwd:Fwd dlM deltaS fun d => deltaOk d = true:=(knowM_fwd.two (knowM_fwd.two ((liM_fwd talM_fwd).two ((liM_fwd liveM_fwd).two ((liM_fwd dotM_fwd).two (liM_fwd cellM_fwd)))))).to (fun x => ⟨x.1,x.2.1,x.2.2.1,x.2.2.2.1,x.2.2.2.2.1,x.2.2.2.2.2⟩) (fun x => (x.base,x.know,x.tallies,x.lives,x.dead,x.cs)) (fun s => rfl) (fun x => rfl) (fun x => rfl) (fun x h => deltaOk_facts h)
end Am
namespace Am
open Go
theorem talS_sz {t:GTally} (h:talR t):(talS t).size ≤ 23:=by
  have h1:=shortS_size h.1
  have h2:=varS_size h.2.1
  have h3:=varS_size h.2.2
  simp only [talS,ByteArray.size_append]; omega
theorem liveS_sz {t:GLive} (h:liveR t):(liveS t).size ≤ 42:=by
  have h1:=shortS_size h.1
  have h2:=shortS_size h.2.1
  have h3:=varS_size h.2.2.1
  have h4:=dotS_size h.2.2.2
  have h5:=flagS_size t.map
  simp only [liveS,ByteArray.size_append]; omega
theorem cellS_sz {t:GCell} (h:cellR t):(cellS t).size ≤ 44:=by
  have h1:=shortS_size h.1
  have h2:=dotS_size h.2.1
  have h3:=varS_size h.2.2.1
  have h4:=dotS_size h.2.2.2.1
  have h5:=varS_size h.2.2.2.2
  have h6:=flagS_size t.gone
  simp only [cellS,ByteArray.size_append]; omega
theorem talsS_sz {l:List GTally} (h:l.length ≤ 120 ∧ ∀ i:Nat,i < l.length → talR (nth l i)):(talsS l).size ≤ 2765:=by
  have h1:(varS (l.length:Int)).size ≤ 5:=varS_size ⟨by omega,by omega⟩
  have h2:(catN (talF l) l.length).size ≤ l.length * 23:=catN_size fun i hi => talS_sz (h.2 i hi)
  have h3:=h.1
  simp only [talsS,ByteArray.size_append]; omega
theorem livesS_sz {l:List GLive} (h:l.length ≤ 120 ∧ ∀ i:Nat,i < l.length → liveR (nth l i)):(livesS l).size ≤ 5045:=by
  have h1:(varS (l.length:Int)).size ≤ 5:=varS_size ⟨by omega,by omega⟩
  have h2:(catN (liveF l) l.length).size ≤ l.length * 42:=catN_size fun i hi => liveS_sz (h.2 i hi)
  have h3:=h.1
  simp only [livesS,ByteArray.size_append]; omega
theorem cellsS_sz {l:List GCell} (h:l.length ≤ 120 ∧ ∀ i:Nat,i < l.length → cellR (nth l i)):(cellsS l).size ≤ 5285:=by
  have h1:(varS (l.length:Int)).size ≤ 5:=varS_size ⟨by omega,by omega⟩
  have h2:(catN (cellF l) l.length).size ≤ l.length * 44:=catN_size fun i hi => cellS_sz (h.2 i hi)
  have h3:=h.1
  simp only [cellsS,ByteArray.size_append]; omega
theorem dotsS_sz {l:List GDot} (h:l.length ≤ 120 ∧ ∀ i:Nat,i < l.length → dotR (nth l i)):(dotsS l).size ≤ 1205:=by
  have h1:(varS (l.length:Int)).size ≤ 5:=varS_size ⟨by omega,by omega⟩
  have h2:(catN (dotF l) l.length).size ≤ l.length * 10:=catN_size fun i hi => dotS_size (h.2 i hi)
  have h3:=h.1
  simp only [dotsS,ByteArray.size_append]; omega
theorem deltaS_small {d:GDelta} (h:deltaOk d = true):(deltaS d).size ≤ 20000:=by
  obtain ⟨⟨b0,b1⟩,⟨k0,k1⟩,t,l,e,c⟩:=deltaOk_facts h
  have z1:=varsS_size b1
  have z0:=varsS_size k1
  have z2:=talsS_sz t
  have z3:=livesS_sz l
  have z5:=dotsS_sz e
  have z4:=cellsS_sz c
  simp only [deltaS,ByteArray.size_append]; omega
theorem sealS_eq {u:ByteArray} (h:u.size ≤ 20000):sealS u = u ++ fourS (sumOf u):=by rw [sealS,if_pos h]
theorem unOk_seal {u:ByteArray} (h:u.size ≤ 20000):unOk (sealS u) = true:=by
  rw [sealS_eq h]
  have hs:(u ++ fourS (sumOf u)).size = u.size + 4:=by rw [ByteArray.size_append,fourS_size]
  have e1:(u ++ fourS (sumOf u)).extract 0 ((u ++ fourS (sumOf u)).size - 4) = u:=by
    rw [hs,show u.size + 4 - 4 = u.size by omega,ByteArray.extract_append_size_left]
    exact ba_all u
  have e2:(u ++ fourS (sumOf u)).extract ((u ++ fourS (sumOf u)).size - 4) (u ++ fourS (sumOf u)).size = fourS (sumOf u):=by
    rw [hs,show u.size + 4 - 4 = u.size by omega]
    apply ByteArray.ext
    apply Array.toList_inj.1
    rw [ByteArray.data_extract,Array.toList_extract,List.extract_eq_take_drop,app_list]
    rw [show u.size = u.data.toList.length from (size_list u).symm,List.drop_left,Nat.add_sub_cancel_left]
    exact List.take_of_length_le (by rw [size_list,fourS_size]; omega)
  simp only [unOk,Bool.and_eq_true,decide_eq_true_eq]
  exact ⟨by rw [hs]; omega,by rw [hs]; omega,by rw [e1,e2]⟩
theorem unS_seal2 {u:ByteArray} (h:u.size ≤ 20000):unS (sealS u) = u:=seal_unS (by simp [sealOk,h]) rfl (unOk_seal h)
theorem whole_fwd {α:Type} {r:GScan → α × GScan} {w:α → ByteArray} {p:α → Prop} (hr:Fwd r w p) {x:α} (hx:p x) (h:(w x).size ≤ 20000) :
    (r (scan0 (sealS (w x)))).1 = x ∧ (r (scan0 (sealS (w x)))).2.bad = false ∧ (r (scan0 (sealS (w x)))).2.pos = (unS (sealS (w x))).size:=by
  have e:=unS_seal2 h
  have hH:Here (scan0 (sealS (w x))) ((w x).data.toList ++ []):=by
    refine ⟨by simp [scan0,unOk_seal h],by simp [scan0],by simp [scan0],?_⟩
    simp [scan0,e]
  obtain ⟨g1,g2,g3⟩:=hr.g x hx _ _ hH
  refine ⟨g1,g2.b,?_⟩
  have hd:=g2.d
  have hl:=congrArg List.length hd
  rw [List.length_drop,size_list,g3,List.length_nil] at hl
  have h1:=g2.l
  have h2:=g2.h
  rw [g3] at h2
  have e0:(scan0 (sealS (w x))).t = unS (sealS (w x)):=rfl
  rw [e0] at hl h2
  omega
theorem delta_back {d:GDelta} (h:deltaOk d = true):rdDlM (deltaText d) = (d,true):=by
  obtain ⟨g1,g2,g3⟩:=whole_fwd dlM_fwd h (deltaS_small h)
  rw [deltaText,if_pos h]
  unfold rdDlM resDM
  rw [if_pos ⟨g2,g3,by rw [g1]; exact h⟩,g1]
theorem deltaTextOk_eq (d:GDelta):deltaTextOk d = deltaOk d:=by
  unfold deltaTextOk
  cases h:deltaOk d
  · rfl
  · simp [sealOk,deltaS_small h]
end Am
namespace Am
open Go
theorem actRd_fwd:Fwd actRd actS ActR:=(dotM_fwd.two (numM_fwd.two (knowM_fwd.two (numM_fwd.two (shM_fwd.two (shM_fwd.two (numM_fwd.two dotM_fwd))))))).to (fun x => ⟨x.1,x.2.1,x.2.2.1,x.2.2.2.1,x.2.2.2.2.1,x.2.2.2.2.2.1,x.2.2.2.2.2.2.1,x.2.2.2.2.2.2.2⟩) (fun x => (x.dot,x.time,x.knew,x.kind,x.obj,x.key,x.val,x.ref)) (fun s => rfl) (fun x => rfl) (fun x => rfl) (fun x h => ⟨h.dot,h.time,h.knew,h.kind,Nat.le_trans h.obj (by decide),Nat.le_trans h.key (by decide),h.val,h.ref⟩)
theorem deltaS_less {d:GDelta} (h:deltaOk d = true):(deltaS d).size ≤ 15000:=by
  obtain ⟨⟨b0,b1⟩,⟨k0,k1⟩,t,l,e,c⟩:=deltaOk_facts h
  have z1:=varsS_size b1
  have z0:=varsS_size k1
  have z2:=talsS_sz t
  have z3:=livesS_sz l
  have z5:=dotsS_sz e
  have z4:=cellsS_sz c
  simp only [deltaS,ByteArray.size_append]; omega
theorem deltaText_less {d:GDelta} (h:deltaOk d = true):(deltaText d).size ≤ 15004:=by
  have:=deltaS_less h
  rw [deltaText,if_pos h,sealS_eq (by omega),ByteArray.size_append,fourS_size]; omega
theorem unitTOk_eq (u:GUnit):unitTOk u = unitOk u:=by
  unfold unitTOk
  cases h:unitOk u
  · rfl
  cases hb:u.batch
  · rfl
  · have:deltaOk u.delta = true:=by
      simp only [unitOk,hb,if_true,Bool.and_eq_true] at h
      exact h.1
    simp [deltaTextOk_eq,this]
theorem unitS_small {u:GUnit} (h:unitOk u = true):(unitS u).size ≤ 20000:=by
  unfold unitS
  cases hb:u.batch
  · have:=actS_size (actOk_R (unitOk_actE h hb))
    simp only [Bool.false_eq_true,if_false,ByteArray.size_append,nought_size]; omega
  · have h2:deltaOk u.delta = true:=by
      simp only [unitOk,hb,if_true,Bool.and_eq_true] at h
      exact h.1
    have h3:=deltaText_less h2
    have h4:(varS ((deltaText u.delta).size:Int)).size ≤ 5:=varS_five (by omega)
    simp only [if_true,shortS,ByteArray.size_append,one_size]; omega
theorem unitTextOk_eq (u:GUnit):unitTextOk u = unitOk u:=by
  unfold unitTextOk
  rw [unitTOk_eq]
  cases h:unitOk u
  · rfl
  · simp [sealOk,unitS_small h]
theorem here_at {c:UInt8} {x:ByteArray} {t:ByteArray} (h:t = str [c] ++ x):Here ⟨t,1,false⟩ (x.data.toList ++ []):=by
  subst h
  refine ⟨rfl,by simp,?_,?_⟩
  · simp only [ByteArray.size_append,str_size,List.length_singleton]; omega
  · simp only [app_list]
    rw [List.append_nil]; rfl
theorem here_end {s:GScan} {t:ByteArray} (h:Here s []) (ht:s.t = t):s.pos = t.size:=by
  subst ht
  have hl:=congrArg List.length h.d
  rw [List.length_drop,size_list,List.length_nil] at hl
  have h1:=h.l
  have h2:=h.h
  omega
theorem rdAct_fwd {a:GAct} (h:actOk a = true) {t:ByteArray} {c:UInt8} (ht:t = str [c] ++ actS a):rdAct t 1 = (a,(t.size:Int),true):=by
  obtain ⟨g1,g2,g3⟩:=actRd_fwd.g a (actOk_R h) _ _ (here_at ht)
  have e:=here_end g2 g3
  unfold rdAct
  rw [if_pos ⟨g2.b,by rw [g1]; exact h⟩,g1,e]
theorem rs_fwd {x:ByteArray} (h:x.size ≤ 20000) {t:ByteArray} {c:UInt8} (ht:t = str [c] ++ shortS x):rs t 1 = some (x,(t.size:Int)):=by
  obtain ⟨g1,g2,g3⟩:=shM_fwd.g x h _ _ (here_at ht)
  have e:=here_end g2 g3
  have gb:=g2.b
  unfold shM at g1 gb e
  simp only [Bool.false_eq_true,if_false] at g1 gb e
  cases q:rs t 1 with
  | none => rw [q] at gb; cases gb
  | some z =>
    rw [q] at g1 e
    obtain ⟨z1,z2⟩:=z
    simp only at g1 e
    rw [g1,e]
theorem unit_back {u:GUnit} (h:unitOk u = true):rdUnM (unitText u) = (u,true):=by
  have hs:=unitS_small h
  have hk:=unOk_seal hs
  have he:=unS_seal2 hs
  have e1:unitText u = sealS (unitS u):=by rw [unitText,if_pos (by rw [unitTOk_eq]; exact h)]
  rw [e1]
  unfold rdUnM
  rw [he,hk]
  cases hb:u.batch
  · have ha:=unitOk_actE h hb
    have e2:unitS u = str [0] ++ actS u.act:=by unfold unitS; rw [hb]; rfl
    have e3:u.delta = zeroDelta:=by
      simp only [unitOk,hb,Bool.false_eq_true,if_false,Bool.and_eq_true,decide_eq_true_eq] at h
      exact h.2
    have hp:0 < (unitS u).size:=by rw [e2,ByteArray.size_append,str_size,List.length_singleton]; omega
    rw [if_pos ⟨rfl,hp⟩,if_pos (by rw [e2,bt_lead]; rfl),rdAct_fwd ha e2,if_pos ⟨rfl,rfl⟩]
    rw [← e3,← hb]
  · have hd:deltaOk u.delta = true:=by
      simp only [unitOk,hb,if_true,Bool.and_eq_true] at h
      exact h.1
    have e3:u.act = zeroAct:=by
      simp only [unitOk,hb,if_true,Bool.and_eq_true,decide_eq_true_eq] at h
      exact h.2
    have e2:unitS u = str [1] ++ shortS (deltaText u.delta):=by unfold unitS; rw [hb]; rfl
    have hp:0 < (unitS u).size:=by rw [e2,ByteArray.size_append,str_size,List.length_singleton]; omega
    have b0:¬ bt (unitS u) 0 = 0:=by rw [e2,bt_lead]; decide
    have hr:=rs_fwd (x:=deltaText u.delta) (by have:=deltaText_less hd; omega) e2
    rw [if_pos ⟨rfl,hp⟩,if_neg b0,if_pos (by rw [e2,bt_lead]; rfl),hr]
    have e4:=delta_back hd
    simp only [rsS,rsN,e4]
    rw [if_pos ⟨by simp,trivial,by simp⟩,← e3,← hb]
theorem covers_len {u:GUnit} (h:unitOk u = true) (hb:u.batch = false):(coversD u).length = 1:=by
  unfold coversD
  rw [if_pos h,hb]; rfl
end Am
