/- Rows: of both. No condition. -/
import Derived.Test.YtjbbhccphedkfaaGreatT
import Derived.Test.YtjbbhccphedkfaaGreatD
import Derived.Test.YtjbbhccphedkfaaGreatU6
import Derived.Test.YtjbbhccphedkfaaGreatE55
import Derived.Test.YtjbbhccphedkfaaGreatAm31
import Derived.Test.YtjbbhccphedkfaaGreatE59
import Derived.Test.YtjbbhccphedkfaaGreatE51
import Derived.Test.YtjbbhccphedkfaaGreatE2
set_option linter.unusedSimpArgs false
set_option linter.unusedVariables false
set_option linter.unnecessarySimpa false
set_option linter.unusedSectionVars false
namespace Am
open Go Go.Proofs Go.Sort
open Cel (cells)
set_option maxRecDepth 100000
@[simp] def h262:Hts:={ merge:=fun _ => false }
set_option maxHeartbeats 1000000 in
theorem f262_ok (x y:GCell):FnR Tryz.prog 262 [.agg [.str x.obj,.int .i64 x.dot.rep,.int .i64 x.dot.seq,.int .i64 x.time,.int .i64 x.ref.rep,.int .i64 x.ref.seq,.int .i64 x.val,.bool x.gone],.agg [.str y.obj,.int .i64 y.dot.rep,.int .i64 y.dot.seq,.int .i64 y.time,.int .i64 y.ref.rep,.int .i64 y.ref.seq,.int .i64 y.val,.bool y.gone]] (.v (.bool (later x y))):=by
  refine FnW.of_AW TryzT_ok 0 (fn:=Tryz.f262) (by kernel_rfl) rfl (by kernel_rfl) rfl rfl rfl ?_; refine AW_of h262 TryzT_ok (by kernel_rfl) ?_
  by_cases e1:x.time = y.time
  case neg =>
    have b1:(x.time != y.time) = true:=by simp [e1]
    simp -dsimp [b1]
    simp [later,e1]
  have b1:(x.time != y.time) = false:=by simp [e1]
  by_cases e2:x.dot.rep = y.dot.rep
  case neg =>
    have b2:(x.dot.rep != y.dot.rep) = true:=by simp [e2]
    have e2':¬ y.dot.rep = x.dot.rep:=fun h => e2 h.symm
    simp -dsimp [b1,b2]
    simp [later,e1,before,e2']
  have b2:(x.dot.rep != y.dot.rep) = false:=by simp [e2]
  simp -dsimp [b1,b2]
  simp [later,e1,before,e2]
def emit (cs:List GCell) (o:ByteArray) (n:Nat) (ks:List GCell) (j:Nat):List GCell:=(ks.take j).flatMap fun k => k :: pre cs o n k.dot
theorem emit_succ {cs:List GCell} {o:ByteArray} {n:Nat} {ks:List GCell} {j:Nat} (h:j < ks.length):emit cs o n ks (j + 1) = emit cs o n ks j ++ nth ks j :: pre cs o n (nth ks j).dot:=by
  unfold emit
  rw [take_snoc h,List.flatMap_append]
  simp [List.flatMap_cons]
theorem emit_all (cs:List GCell) (o:ByteArray) (n:Nat) (r:GDot):emit cs o n (kids cs o r) (kids cs o r).length = pre cs o (n + 1) r:=by
  unfold emit
  rw [List.take_length]
  rfl
theorem emit_len (cs:List GCell) (o:ByteArray) (n:Nat) (r:GDot) (j:Nat):(emit cs o n (kids cs o r) j).length ≤ (pre cs o (n + 1) r).length:=by
  have h:pre cs o (n + 1) r = emit cs o n (kids cs o r) j ++ ((kids cs o r).drop j).flatMap fun k => k :: pre cs o n k.dot:=by
    unfold emit
    rw [← List.flatMap_append,List.take_append_drop]
    rfl
  rw [h,List.length_append]
  omega
def outJ (cs:List GCell) (o:ByteArray) (n:Nat) (ks out:List GCell) (j:Nat):List GCell:=out ++ emit cs o n ks j
def kidsK (cs:List GCell) (o:ByteArray) (r:GDot) (i:Nat):List GCell:=insN later (kidP o r) [] cs i
theorem kidsK_len (cs:List GCell) (o:ByteArray) (r:GDot) (i:Nat):(kidsK cs o r i).length ≤ i:=by
  have:=insN_len later (kidP o r) [] cs i
  simpa [kidsK] using this
@[simp] def h252:Hts:={ merge:=fun _ => false,mergeF:=fun _ => false,lend:=fun f => if f = 252 then [.view,.view,.view,.lend] else [],dr:=fun id => if id = 12 then [{},{},{},{},{},{},{},{},{ cr:=true },{}] else if id = 23 then [{},{},{},{},{},{},{},{},{ wr:=[5504],cr:=true },{}] else [] }
set_option maxHeartbeats 8000000 in
theorem f252_ok (s:GState) (o:ByteArray) (hR:RowF s.cs):∀ (n:Nat) (r:GDot) (out:List GCell),fuelOk s.cs n r → out.length + (pre s.cs o n r).length ≤ 1000000 →
    FnW Tryz.prog 252 [.agg [.im s.know.length (flat s.know),.im s.tallies.length (flat s.tallies),.im s.lives.length (flat s.lives),.im s.cs.length (flat s.cs)],.v (.str o),.agg [.int .i64 r.rep,.int .i64 r.seq],.v (.ow 100 8 out.length (flat out))] (.v (.ow 100 8 (out ++ pre s.cs o n r).length (flat (out ++ pre s.cs o n r)))) [.any,.any,.any,.any]
  | 0,r,out,hf,_ => absurd hf (fuel0 hR)
  | n + 1,r,out,hf,hlen => by
    have few:=hR.few
    refine FnW.of_AW TryzT_ok 0 (fn:=Tryz.f252) (by kernel_rfl) rfl (by kernel_rfl) rfl rfl rfl ?_; refine AW_of h252 TryzT_ok (by kernel_rfl) ?_
    simp -dsimp
    refine AWh_loop (fun i:Nat => i ≤ s.cs.length) (fun i => mkE [(1,.c (.str o)),(3,.arr 640192),(4,.box 256 0),(6,.box 384 0),(9,.arr 900002),(10,.c (.int .i64 i))] [(640192,.arr 0 100 8 out.length (flat out)),(256,.box [.c (.im s.know.length (flat s.know)),.c (.im s.tallies.length (flat s.tallies)),.c (.im s.lives.length (flat s.lives)),.c (.im s.cs.length (flat s.cs))]),(384,.box [.c (.int .i64 r.rep),.c (.int .i64 r.seq)]),(900002,.arr 0 100 8 (kidsK s.cs o r i).length (flat (kidsK s.cs o r i)))]) (fun i => s.cs.length - i) 0 (Wk_to [1,3,4,6,9,10] [(640192,640192),(256,256),(384,384),(900002,1024)] rfl rfl (by simp [kidsK,insN])) (by simp) ?_
    rintro i hi
    have hkl:=kidsK_len s.cs o r i
    refine AW_of h252 TryzT_ok (by kernel_rfl) ?_
    rcases Nat.lt_or_ge i s.cs.length with h1 | h1
    · by_cases e1:(nth s.cs i).obj = o
      case neg =>
        have hn:kidsK s.cs o r (i + 1) = kidsK s.cs o r i:=by simp [kidsK,insN,kidP,e1]
        simp -dsimp [h1,ne_of_lt h1,e1]
        repeat (first|refine ⟨by omega,?_⟩|refine ⟨by simp [capMax];omega,?_⟩|refine ⟨⟨by omega,by omega⟩,?_⟩)
        exact Back_of (i + 1) [1,3,4,6,9,10] [(640192,640192),(256,256),(384,384),(900002,900002)] rfl rfl (by simp [hn]; rw [wrap64 (by omega) (by omega)]) (by omega) (by omega)
      by_cases e2:(nth s.cs i).ref = r
      case neg =>
        have hn:kidsK s.cs o r (i + 1) = kidsK s.cs o r i:=by simp [kidsK,insN,kidP,e2]
        have b2:((nth s.cs i).ref.rep == r.rep && (nth s.cs i).ref.seq == r.seq) = false:=by
          rw [Bool.eq_false_iff]; intro h; exact e2 (by simpa [GDot.ext_iff] using h)
        simp -dsimp [h1,ne_of_lt h1,e1,b2]
        repeat (first|refine ⟨by omega,?_⟩|refine ⟨by simp [capMax];omega,?_⟩|refine ⟨⟨by omega,by omega⟩,?_⟩)
        exact Back_of (i + 1) [1,3,4,6,9,10] [(640192,640192),(256,256),(384,384),(900002,900002)] rfl rfl (by simp [hn]; rw [wrap64 (by omega) (by omega)]) (by omega) (by omega)
      have e3:(nth s.cs i).ref.rep = r.rep:=by rw [e2]
      have e4:(nth s.cs i).ref.seq = r.seq:=by rw [e2]
      have hn:kidsK s.cs o r (i + 1) = insF later (nth s.cs i) (kidsK s.cs o r i):=by simp [kidsK,insN,kidP,e1,e2]
      simp -dsimp [h1,ne_of_lt h1,e1,e3,e4]
      repeat (first|refine ⟨by omega,?_⟩|refine ⟨by simp [capMax];omega,?_⟩|refine ⟨⟨by omega,by omega⟩,?_⟩)
      refine AWh_loop (fun j:Nat => j ≤ (kidsK s.cs o r i).length) (fun j => mkE [(1,.c (.str o)),(3,.arr 640192),(4,.box 256 0),(6,.box 384 0),(9,.arr 900002),(10,.c (.int .i64 i)),(11,.box 704 0),(12,.arr 900003),(13,.c (.bool (insK later (nth s.cs i) (kidsK s.cs o r i) j).2)),(14,.c (.int .i64 j))] [(640192,.arr 0 100 8 out.length (flat out)),(256,.box [.c (.im s.know.length (flat s.know)),.c (.im s.tallies.length (flat s.tallies)),.c (.im s.lives.length (flat s.lives)),.c (.im s.cs.length (flat s.cs))]),(384,.box [.c (.int .i64 r.rep),.c (.int .i64 r.seq)]),(900002,.arr 0 100 8 (kidsK s.cs o r i).length (flat (kidsK s.cs o r i))),(704,.box [.c (.str ((nth s.cs i)).obj),.c (.int .i64 ((nth s.cs i)).dot.rep),.c (.int .i64 ((nth s.cs i)).dot.seq),.c (.int .i64 ((nth s.cs i)).time),.c (.int .i64 ((nth s.cs i)).ref.rep),.c (.int .i64 ((nth s.cs i)).ref.seq),.c (.int .i64 ((nth s.cs i)).val),.c (.bool ((nth s.cs i)).gone)]),(900003,.arr 0 100 8 (insK later (nth s.cs i) (kidsK s.cs o r i) j).1.length (flat (insK later (nth s.cs i) (kidsK s.cs o r i) j).1))]) (fun j => (kidsK s.cs o r i).length - j) 0 (Wk_to [1,3,4,6,9,10,11,12,13,14] [(640192,640192),(256,256),(384,384),(900002,900002),(704,704),(900003,2496)] rfl rfl (by simp [insK,e1,e2,e3,e4])) (by simp) ?_
      rintro j hj
      have hil:=insK_len (lt:=later) (nth s.cs i) (kidsK s.cs o r i) j
      have hil':(insK later (nth s.cs i) (kidsK s.cs o r i) j).1.length ≤ j + 1:=by split at hil <;> omega
      refine AW_of h252 TryzT_ok (by kernel_rfl) ?_
      rcases Nat.lt_or_ge j (kidsK s.cs o r i).length with p1 | p1
      · cases g:(insK later (nth s.cs i) (kidsK s.cs o r i) j).2
        · simp -dsimp [p1,ne_of_lt p1]
          repeat (first|refine ⟨by omega,?_⟩|refine ⟨by simp [capMax];omega,?_⟩|refine ⟨⟨by omega,by omega⟩,?_⟩)
          refine ACallK_of (f262_ok _ _) ?_
          cases g2:later (nth s.cs i) (nth (kidsK s.cs o r i) j)
          · simp -dsimp [p1,ne_of_lt p1]
            repeat (first|refine ⟨by omega,?_⟩|refine ⟨by simp [capMax];omega,?_⟩|refine ⟨⟨by omega,by omega⟩,?_⟩)
            exact Back_of (j + 1) [1,3,4,6,9,10,11,12,13,14] [(640192,640192),(256,256),(384,384),(900002,900002),(704,704),(900003,4224)] rfl rfl (by simp [insK,g,g2]; rw [wrap64 (by omega) (by omega)]) (by omega) (by omega)
          · simp -dsimp [p1,ne_of_lt p1]
            repeat (first|refine ⟨by omega,?_⟩|refine ⟨by simp [capMax];omega,?_⟩|refine ⟨⟨by omega,by omega⟩,?_⟩)
            exact Back_of (j + 1) [1,3,4,6,9,10,11,12,13,14] [(640192,640192),(256,256),(384,384),(900002,900002),(704,704),(900003,4224)] rfl rfl (by simp [insK,g,g2]; rw [wrap64 (by omega) (by omega)]) (by omega) (by omega)
        · simp -dsimp [p1,ne_of_lt p1]
          repeat (first|refine ⟨by omega,?_⟩|refine ⟨by simp [capMax];omega,?_⟩|refine ⟨⟨by omega,by omega⟩,?_⟩)
          exact Back_of (j + 1) [1,3,4,6,9,10,11,12,13,14] [(640192,640192),(256,256),(384,384),(900002,900002),(704,704),(900003,4224)] rfl rfl (by simp [insK,g]; rw [wrap64 (by omega) (by omega)]) (by omega) (by omega)
      · obtain rfl:j = (kidsK s.cs o r i).length:=by omega
        cases g:(insK later (nth s.cs i) (kidsK s.cs o r i) (kidsK s.cs o r i).length).2
        · have hn2:kidsK s.cs o r (i + 1) = (insK later (nth s.cs i) (kidsK s.cs o r i) (kidsK s.cs o r i).length).1 ++ [nth s.cs i]:=by rw [hn]; simp [insF,g]
          simp -dsimp [g]
          repeat (first|refine ⟨by omega,?_⟩|refine ⟨by simp [capMax];omega,?_⟩|refine ⟨⟨by omega,by omega⟩,?_⟩)
          exact Back_of (i + 1) [1,3,4,6,9,10] [(640192,640192),(256,256),(384,384),(900002,4608)] rfl rfl (by simp [hn2]; rw [wrap64 (by omega) (by omega)]) (by omega) (by omega)
        · have hn2:kidsK s.cs o r (i + 1) = (insK later (nth s.cs i) (kidsK s.cs o r i) (kidsK s.cs o r i).length).1:=by rw [hn]; simp [insF,g]
          simp -dsimp [g]
          repeat (first|refine ⟨by omega,?_⟩|refine ⟨by simp [capMax];omega,?_⟩|refine ⟨⟨by omega,by omega⟩,?_⟩)
          exact Back_of (i + 1) [1,3,4,6,9,10] [(640192,640192),(256,256),(384,384),(900002,900003)] rfl rfl (by simp [hn2]; rw [wrap64 (by omega) (by omega)]) (by omega) (by omega)
    obtain rfl:i = s.cs.length:=by omega
    clear hi h1
    simp -dsimp
    refine AWh_loop (fun j:Nat => j ≤ (kids s.cs o r).length) (fun j => mkE [(1,.c (.str o)),(3,.arr 900001),(4,.box 256 0),(9,.arr 900002),(15,.c (.int .i64 j))] [(900001,.arr 0 100 8 (outJ s.cs o n (kids s.cs o r) out j).length (flat (outJ s.cs o n (kids s.cs o r) out j))),(256,.box [.c (.im s.know.length (flat s.know)),.c (.im s.tallies.length (flat s.tallies)),.c (.im s.lives.length (flat s.lives)),.c (.im s.cs.length (flat s.cs))]),(900002,.arr 0 100 8 (kids s.cs o r).length (flat (kids s.cs o r)))]) (fun j => (kids s.cs o r).length - j) 0 (Wk_to [1,3,4,9,15] [(900001,640192),(256,256),(900002,900002)] rfl rfl (by simp [outJ,emit,kidsK,kids])) (by simp) ?_
    rintro j hj
    have hel:=emit_len s.cs o n r j
    refine AW_of h252 TryzT_ok (by kernel_rfl) ?_
    rcases Nat.lt_or_ge j (kids s.cs o r).length with h1 | h1
    · have hs:outJ s.cs o n (kids s.cs o r) out (j + 1) = outJ s.cs o n (kids s.cs o r) out j ++ [nth (kids s.cs o r) j] ++ pre s.cs o n (nth (kids s.cs o r) j).dot:=by
        unfold outJ
        rw [emit_succ h1]; simp
      have hel2:=emit_len s.cs o n r (j + 1)
      have hkn:=kids_len s.cs o r
      have hel3:(outJ s.cs o n (kids s.cs o r) out (j + 1)).length = out.length + (emit s.cs o n (kids s.cs o r) (j + 1)).length:=by simp [outJ]
      have hel4:=congrArg List.length hs
      simp only [List.length_append,List.length_singleton] at hel4
      simp -dsimp [h1,ne_of_lt h1]
      repeat (first|refine ⟨by omega,?_⟩|refine ⟨by simp [capMax];omega,?_⟩|refine ⟨⟨by omega,by omega⟩,?_⟩)
      have hcall:=f252_ok s o hR n (nth (kids s.cs o r) j).dot (outJ s.cs o n (kids s.cs o r) out j ++ [nth (kids s.cs o r) j]) (fuel_kid hR hf (nth_mem h1)) (by simp; omega)
      rw [← hs] at hcall
      simp only [List.length_append,List.length_singleton] at hcall
      refine ACallW_go ?_
      refine ACallC_go (fun us => hcall) ?_
      simp -dsimp
      exact Back_of (j + 1) [1,3,4,9,15] [(900001,6080),(256,256),(900002,900002)] rfl rfl (by simp; rw [wrap64 (by omega) (by omega)]) (by omega) (by omega)
    · obtain rfl:j = (kids s.cs o r).length:=by omega
      have hfin:outJ s.cs o n (kids s.cs o r) out (kids s.cs o r).length = out ++ pre s.cs o (n + 1) r:=by unfold outJ; rw [emit_all]
      simp -dsimp
      rw [hfin]
      exact ⟨by simp,rfl⟩
end Am
namespace Am
open Go Go.Proofs Go.Sort
open Cel (cells)
set_option maxRecDepth 100000
theorem zero_fuel (cs:List GCell):fuelOk cs 10001 zeroDot:=.inl ⟨rfl,by omega⟩
@[simp] def h224:Hts:={ lend:=fun f => if f = 252 then [.view,.view,.view,.lend] else [] }
theorem f224_ok (s:GState) (o:ByteArray) (hR:RowF s.cs):FnR Tryz.prog 224 [.agg [.im s.know.length (flat s.know),.im s.tallies.length (flat s.tallies),.im s.lives.length (flat s.lives),.im s.cs.length (flat s.cs)],.v (.str o)] (.v (.ow 100 8 (preO s.cs o zeroDot).length (flat (preO s.cs o zeroDot)))):=by
  have few:=hR.few
  have hl:=preO_len hR o
  have hcall:=f252_ok s o hR 10001 zeroDot [] (zero_fuel _) (by simp only [List.length_nil]; unfold preO at hl; omega)
  simp only [List.length_nil,List.nil_append,zeroDot,flat_nil] at hcall
  refine FnW.of_AW TryzT_ok 0 (fn:=Tryz.f224) (by kernel_rfl) rfl (by kernel_rfl) rfl rfl rfl ?_; refine AW_of h224 TryzT_ok (by kernel_rfl) ?_
  simp -dsimp
  refine ACallW_go ?_
  refine ACallC_go (fun us => hcall) ?_
  simp -dsimp
  exact ⟨rfl,rfl⟩
end Am
namespace Am
open Go Go.Proofs
open Cel (cells)
set_option maxRecDepth 100000
def liveK (s:GState) (o:ByteArray) (i:Nat):List GCell:=filK (fun c => !c.gone) [] (row s o) i
theorem liveK_all (s:GState) (o:ByteArray):liveK s o (row s o).length = rowLive s o:=by
  unfold liveK rowLive
  rw [filK_filter _ _ _ (Nat.le_refl _),List.take_length]
theorem liveK_len (s:GState) (o:ByteArray) (i:Nat):(liveK s o i).length ≤ i:=by
  have:=filK_len (fun c:GCell => !c.gone) [] (row s o) i
  simpa [liveK] using this
theorem liveK_more (s:GState) (o:ByteArray) (k:Nat):∀ d:Nat,∃ t,liveK s o (k + d) = liveK s o k ++ t
  | 0 => ⟨[],by simp⟩
  | d + 1 => by
    obtain ⟨t,e⟩:=liveK_more s o k d
    rw [← Nat.add_assoc]
    unfold liveK at e ⊢
    simp only [filK]
    split
    · exact ⟨t ++ [nth (row s o) (k + d)],by rw [e]; simp⟩
    · exact ⟨t,e⟩
theorem liveK_nth {s:GState} {o:ByteArray} {j:Nat} (h:j < (row s o).length) (g:(nth (row s o) j).gone = false):(liveK s o j).length < (rowLive s o).length ∧ nth (rowLive s o) (liveK s o j).length = nth (row s o) j:=by
  obtain ⟨t,e⟩:=liveK_more s o (j + 1) ((row s o).length - (j + 1))
  rw [show j + 1 + ((row s o).length - (j + 1)) = (row s o).length by omega,liveK_all] at e
  have hn:liveK s o (j + 1) = liveK s o j ++ [nth (row s o) j]:=by simp [liveK,filK,g]
  rw [hn] at e
  refine ⟨by rw [e]; simp,?_⟩
  rw [e,nth_eq (by simp)]
  simp
@[simp] def h200:Hts:={ merge:=fun _ => false,mergeF:=fun _ => false }
set_option maxHeartbeats 2000000 in
theorem f200_ok (s:GState) (o:ByteArray) (i:Int) (hs:s.Ok) (hi1:i ≤ 9223372036854775807):FnR Tryz.prog 200 [.agg [.im s.know.length (flat s.know),.im s.tallies.length (flat s.tallies),.im s.lives.length (flat s.lives),.im s.cs.length (flat s.cs)],.v (.str o),.v (.int .i64 i)] (.tup [.agg [.int .i64 ((placeIn s o i).1).rep,.int .i64 ((placeIn s o i).1).seq],.v (.bool ((placeIn s o i).2))]):=by
  refine FnW.of_AW TryzT_ok 0 (fn:=Tryz.f200) (by kernel_rfl) rfl (by kernel_rfl) rfl rfl rfl ?_; refine AW_of h200 TryzT_ok (by kernel_rfl) ?_
  simp -dsimp
  refine ACallK_of (f17_ok _ hs) ?_
  rw [stateOkS_eq]
  cases ks:stateOk s
  · simp -dsimp
    have:rowLive s o = []:=by simp [rowLive,row,ks]
    have hno:¬ (0 ≤ i ∧ i < (rowLive s o).length):=by rw [this]; simp
    simp [placeIn,hno,zeroDot]
  rcases Int.lt_or_le i 0 with h0 | h0
  · simp -dsimp [h0]
    have:¬ (0 ≤ i ∧ i < (rowLive s o).length):=by omega
    simp [placeIn,this,zeroDot]
  have h0':¬ i < 0:=by omega
  have hR:=rowF_of ks
  have hrow:preO s.cs o zeroDot = row s o:=by simp [row,ks]
  have hrl:=row_len s o
  simp -dsimp [h0']
  refine ACallK_of (f224_ok _ _ hR) ?_
  rw [hrow]
  simp -dsimp
  refine AWh_loop (fun j:Nat => j ≤ (row s o).length ∧ (liveK s o j).length ≤ i) (fun j => mkE [(2,.c (.int .i64 (i - (liveK s o j).length))),(6,.box 384 0),(8,.arr 900001),(9,.c (.int .i64 j))] [(384,.box [.c (.int .i64 0),.c (.int .i64 0)]),(900001,.arr 0 100 8 (row s o).length (flat (row s o)))]) (fun j => (row s o).length - j) 0 (Wk_to [2,6,8,9] [(384,384),(900001,1280)] rfl rfl (by simp [liveK,filK])) (by simp [liveK,filK,h0]) ?_
  rintro j ⟨hj,hji⟩
  have hll:=liveK_len s o j
  refine AW_of h200 TryzT_ok (by kernel_rfl) ?_
  rcases Nat.lt_or_ge j (row s o).length with h1 | h1
  · cases g:(nth (row s o) j).gone
    · have hn:liveK s o (j + 1) = liveK s o j ++ [nth (row s o) j]:=by simp [liveK,filK,g]
      by_cases e:i - (liveK s o j).length = 0
      · simp -dsimp [h1,ne_of_lt h1,g,e]
        repeat (first|refine ⟨by omega,?_⟩|refine ⟨by simp [capMax];omega,?_⟩|refine ⟨⟨by omega,by omega⟩,?_⟩)
        obtain ⟨q1,q2⟩:=liveK_nth h1 g
        have hin:0 ≤ i ∧ i < (rowLive s o).length:=by omega
        have hto:i.toNat = (liveK s o j).length:=by omega
        simp [placeIn,hin,hto,q2]
      · have e':(i - ((liveK s o j).length:Int) == 0) = false:=by simp [e]
        simp -dsimp [h1,ne_of_lt h1,g,e,e']
        repeat (first|refine ⟨by omega,?_⟩|refine ⟨by simp [capMax];omega,?_⟩|refine ⟨⟨by omega,by omega⟩,?_⟩)
        have w:IntKind.i64.wrap (i - ((liveK s o j).length:Int) - 1) = i - ((liveK s o j).length + 1):=by rw [wrap64 (by omega) (by omega)]; omega
        exact Back_of (j + 1) [2,6,8,9] [(384,384),(900001,900001)] rfl rfl (by simp [hn,w]; rw [wrap64 (by omega) (by omega)]) ⟨by omega,by rw [hn]; simp; omega⟩ (by omega)
    · have hn:liveK s o (j + 1) = liveK s o j:=by simp [liveK,filK,g]
      simp -dsimp [h1,ne_of_lt h1,g]
      repeat (first|refine ⟨by omega,?_⟩|refine ⟨by simp [capMax];omega,?_⟩|refine ⟨⟨by omega,by omega⟩,?_⟩)
      exact Back_of (j + 1) [2,6,8,9] [(384,384),(900001,900001)] rfl rfl (by simp [hn]; rw [wrap64 (by omega) (by omega)]) ⟨by omega,by rw [hn]; exact hji⟩ (by omega)
  · obtain rfl:j = (row s o).length:=by omega
    rw [liveK_all] at hji
    have hno:¬ (0 ≤ i ∧ i < (rowLive s o).length):=by omega
    simp -dsimp
    simp [placeIn,hno,zeroDot]
end Am
namespace Am
open Go Go.Proofs
open Cel (cells)
set_option maxRecDepth 100000
def editOk (e:GEdit):Bool:=plain e.kind e.val e.obj e.key && ((e.place == 0) || (decide (0 < e.place) && (e.kind == 6 || e.kind == 7)))
@[simp] def h199:Hts:={ mergeF:=fun _ => true }
set_option maxHeartbeats 1000000 in
theorem f199_ok (e:GEdit) (h1:e.obj.size ≤ 9223372036854775807) (h2:e.key.size ≤ 9223372036854775807):FnR Tryz.prog 199 [.agg [.int .i64 e.kind,.str e.obj,.str e.key,.int .i64 e.val,.int .i64 e.place]] (.v (.bool (editOk e))):=by
  refine FnW.of_AW TryzT_ok 0 (fn:=Tryz.f199) (by kernel_rfl) rfl (by kernel_rfl) rfl rfl rfl ?_; refine AW_of h199 TryzT_ok (by kernel_rfl) ?_
  simp -dsimp
  refine ACallK_of (f223_ok _ _ _ _ h1 h2) ?_
  simp -dsimp
  refine ⟨by grind,?_⟩
  unfold editOk
  cases plain e.kind e.val e.obj e.key
  · simp
  rw [Bool.eq_iff_iff]
  simp
  omega
def actPlace (s:GState) (e:GEdit):GDot × Bool:=if e.kind = 6 ∧ 0 < e.place then placeIn s e.obj (e.place - 1) else if e.kind = 7 then placeIn s e.obj e.place else (zeroDot,true)
def actRaw (s:GState) (rep time:Int) (e:GEdit):GAct:=⟨⟨rep,nth s.know rep.toNat + 1⟩,time,s.know,e.kind,e.obj,e.key,e.val,(actPlace s e).1⟩
def actPre (s:GState) (rep time:Int) (e:GEdit):Bool:=stateOk s && editOk e && spIn rep 0 2 && spIn time 1 10000 && decide (nth s.know rep.toNat < 1000)
def actOf (s:GState) (rep time:Int) (e:GEdit):GAct × Int :=
  if actPre s rep time e = false then (zeroAct,3) else if (actPlace s e).2 = false then (zeroAct,5) else if actOk (actRaw s rep time e) = false then (zeroAct,3) else (actRaw s rep time e,0)
theorem knowOk_nth {k:List Int} (h:knowOk k = true) {i:Nat} (hi:i < k.length):0 ≤ nth k i ∧ nth k i ≤ 1000:=by
  simp only [knowOk,Bool.and_eq_true,decide_eq_true_eq] at h
  exact h.2 i hi
@[simp] def h175:Hts:={ merge:=fun _ => false,mergeF:=fun _ => false,dr:=fun id => if id = 3 then [{ mn:=[2560],mb:=[40,43,10] },{ mn:=[2560],mb:=[40,43,10] },{ mn:=[2560],mb:=[40,43,10] },{ mn:=[2560],mb:=[40,43,10] },{ mn:=[2560],mb:=[40,43,10] },{ mn:=[2560],mb:=[40,43,10] },{ mn:=[2560],mb:=[40,43,10] },{ mn:=[2560],mb:=[40,43,10] },{ mn:=[2560],mb:=[40,43,10] },{ cr:=true,mb:=[10] },{ mb:=[40,10] },{ mb:=[40,10] },{ wr:=[2560],cr:=true,mb:=[10] },{ mn:=[2560],mb:=[40,43,10] },{ mn:=[2560],mb:=[40,43,10] },{ mn:=[2560],mb:=[40,43,10] },{ mn:=[2560],mb:=[40,43,10] },{ mn:=[2560],mb:=[40,43,10] },{ mn:=[2560],mb:=[40,43,10] },{ mn:=[2560],mb:=[40,43,10] },{ mn:=[2560],mb:=[40,43,10] },{ mb:=[10] },{ mn:=[2560],cr:=true,mb:=[40,43] },{ wr:=[640] }] else [] }
set_option maxHeartbeats 8000000 in
theorem f175_ok (s:GState) (rep time:Int) (e:GEdit) (hs:s.Ok) (h1:e.obj.size ≤ 1073741824) (h2:e.key.size ≤ 1073741824) (hp1:e.place ≤ 9223372036854775807):FnR Tryz.prog 175 [.agg [.im s.know.length (flat s.know),.im s.tallies.length (flat s.tallies),.im s.lives.length (flat s.lives),.im s.cs.length (flat s.cs)],.v (.int .i64 rep),.v (.int .i64 time),.agg [.int .i64 e.kind,.str e.obj,.str e.key,.int .i64 e.val,.int .i64 e.place]] (.tup [.agg [.int .i64 ((actOf s rep time e).1).dot.rep,.int .i64 ((actOf s rep time e).1).dot.seq,.int .i64 ((actOf s rep time e).1).time,.ow 3 1 ((actOf s rep time e).1).knew.length (flat ((actOf s rep time e).1).knew),.int .i64 ((actOf s rep time e).1).kind,.str ((actOf s rep time e).1).obj,.str ((actOf s rep time e).1).key,.int .i64 ((actOf s rep time e).1).val,.int .i64 ((actOf s rep time e).1).ref.rep,.int .i64 ((actOf s rep time e).1).ref.seq],.v (.int .i64 ((actOf s rep time e).2))]):=by
  obtain ⟨ek,eo,eky,ev,ep⟩:=e
  simp only at h1 h2 hp1
  have hs2:=hs
  simp only [GState.Ok] at hs2
  refine FnW.of_AW TryzT_ok 0 (fn:=Tryz.f175) (by kernel_rfl) rfl (by kernel_rfl) rfl rfl rfl ?_; refine AW_of h175 TryzT_ok (by kernel_rfl) ?_
  simp -dsimp
  refine ACallK_of (f17_ok _ hs) ?_
  rw [stateOkS_eq]
  cases ks:stateOk s
  · simp -dsimp
    have hno:actPre s rep time ⟨ek,eo,eky,ev,ep⟩ = false:=by simp [actPre,ks]
    simp [actOf,hno,zeroAct]
  simp -dsimp
  refine ACallK_of (f199_ok ⟨ek,eo,eky,ev,ep⟩ (by simp only; omega) (by simp only; omega)) ?_
  cases ke:editOk ⟨ek,eo,eky,ev,ep⟩
  · simp -dsimp
    have hno:actPre s rep time ⟨ek,eo,eky,ev,ep⟩ = false:=by simp [actPre,ke]
    simp [actOf,hno,zeroAct]
  simp -dsimp
  refine ACallK_of (f86_ok _ _ _) ?_
  cases kr:spIn rep 0 2
  · simp -dsimp
    have hno:actPre s rep time ⟨ek,eo,eky,ev,ep⟩ = false:=by simp [actPre,kr]
    simp [actOf,hno,zeroAct]
  simp -dsimp
  refine ACallK_of (f86_ok _ _ _) ?_
  cases kt:spIn time 1 10000
  · simp -dsimp
    have hno:actPre s rep time ⟨ek,eo,eky,ev,ep⟩ = false:=by simp [actPre,kt]
    simp [actOf,hno,zeroAct]
  have k3:=stateOk_know ks
  have kr2:=kr
  simp only [spIn,Bool.and_eq_true,decide_eq_true_eq] at kr2
  have q1:rep.toNat < s.know.length:=by omega
  have kok:knowOk s.know = true:=by simp only [stateOk,Bool.and_eq_true] at ks; exact ks.1.1.1.1
  have kn:=knowOk_nth kok q1
  have he0:0 ≤ ep:=by
    have ke2:=ke
    simp only [editOk,Bool.and_eq_true,Bool.or_eq_true,beq_iff_eq,decide_eq_true_eq] at ke2
    omega
  have wk:IntKind.i64.wrap (nth s.know rep.toNat + 1) = nth s.know rep.toNat + 1:=wrap64 (by omega) (by omega)
  have wp:IntKind.i64.wrap (ep - 1) = ep - 1:=wrap64 (by omega) (by omega)
  have hraw:(actRaw s rep time ⟨ek,eo,eky,ev,ep⟩).Ok:=by simp only [GAct.Ok]; exact ⟨hs2.1,h1,h2⟩
  by_cases k6:ek = 6
  · subst k6
    by_cases k0:0 < ep
    · have hpl:actPlace s ⟨6,eo,eky,ev,ep⟩ = placeIn s eo (ep - 1):=by simp [actPlace,k0]
      have er:actRaw s rep time ⟨6,eo,eky,ev,ep⟩ = ⟨⟨rep,nth s.know rep.toNat + 1⟩,time,s.know,6,eo,eky,ev,(placeIn s eo (ep - 1)).1⟩:=by simp [actRaw,hpl,zeroDot]
      rw [er] at hraw
      simp -dsimp [q1,ne_of_lt q1,wk,wp,k0]
      repeat (first|refine ⟨by omega,?_⟩|refine ⟨by simp [capMax];omega,?_⟩|refine ⟨⟨by omega,by omega⟩,?_⟩)
      refine ACallK_of (f200_ok s eo (ep - 1) hs (by omega)) ?_
      simp -dsimp [wk,k0]
      refine ACallK_of (f129_ok ⟨rep,nth s.know rep.toNat + 1⟩) ?_
      by_cases kl:1000 ≤ nth s.know rep.toNat
      · have hno:actPre s rep time ⟨6,eo,eky,ev,ep⟩ = false:=by simp [actPre]; intros; omega
        have hd:dotOk ⟨rep,nth s.know rep.toNat + 1⟩ = false:=by simp [dotOk,spIn]; intros; omega
        rw [hd]
        simp -dsimp
        simp [actOf,hno,zeroAct]
      have hyes:actPre s rep time ⟨6,eo,eky,ev,ep⟩ = true:=by simp [actPre,ks,ke,kr,kt]; omega
      have hd:dotOk ⟨rep,nth s.know rep.toNat + 1⟩ = true:=by simp [dotOk,spIn]; omega
      rw [hd]
      cases g1:(placeIn s eo (ep - 1)).2
      · simp -dsimp [wk]
        simp [actOf,hyes,hpl,g1,zeroAct]
      have g1p:(actPlace s ⟨6,eo,eky,ev,ep⟩).2 = true:=by rw [hpl]; exact g1
      simp -dsimp [wk]
      refine ACallK_of (f201_ok ⟨⟨rep,nth s.know rep.toNat + 1⟩,time,s.know,6,eo,eky,ev,(placeIn s eo (ep - 1)).1⟩ hraw) ?_
      cases g2:actOk ⟨⟨rep,nth s.know rep.toNat + 1⟩,time,s.know,6,eo,eky,ev,(placeIn s eo (ep - 1)).1⟩
      · simp -dsimp
        simp [actOf,hyes,g1p,er,g2,zeroAct]
      · simp -dsimp
        simp [actOf,hyes,g1p,er,g2]
    · have hpl:actPlace s ⟨6,eo,eky,ev,ep⟩ = (zeroDot,true):=by simp [actPlace,k0]
      have er:actRaw s rep time ⟨6,eo,eky,ev,ep⟩ = ⟨⟨rep,nth s.know rep.toNat + 1⟩,time,s.know,6,eo,eky,ev,⟨0,0⟩⟩:=by simp [actRaw,hpl,zeroDot]
      rw [er] at hraw
      simp -dsimp [q1,ne_of_lt q1,wk,wp,k0]
      repeat (first|refine ⟨by omega,?_⟩|refine ⟨by simp [capMax];omega,?_⟩|refine ⟨⟨by omega,by omega⟩,?_⟩)
      refine ACallK_of (f129_ok ⟨rep,nth s.know rep.toNat + 1⟩) ?_
      by_cases kl:1000 ≤ nth s.know rep.toNat
      · have hno:actPre s rep time ⟨6,eo,eky,ev,ep⟩ = false:=by simp [actPre]; intros; omega
        have hd:dotOk ⟨rep,nth s.know rep.toNat + 1⟩ = false:=by simp [dotOk,spIn]; intros; omega
        rw [hd]
        simp -dsimp
        simp [actOf,hno,zeroAct]
      have hyes:actPre s rep time ⟨6,eo,eky,ev,ep⟩ = true:=by simp [actPre,ks,ke,kr,kt]; omega
      have hd:dotOk ⟨rep,nth s.know rep.toNat + 1⟩ = true:=by simp [dotOk,spIn]; omega
      rw [hd]
      have g1p:(actPlace s ⟨6,eo,eky,ev,ep⟩).2 = true:=by rw [hpl]
      simp -dsimp [wk]
      refine ACallK_of (f201_ok ⟨⟨rep,nth s.know rep.toNat + 1⟩,time,s.know,6,eo,eky,ev,⟨0,0⟩⟩ hraw) ?_
      cases g2:actOk ⟨⟨rep,nth s.know rep.toNat + 1⟩,time,s.know,6,eo,eky,ev,⟨0,0⟩⟩
      · simp -dsimp
        simp [actOf,hyes,g1p,er,g2,zeroAct]
      · simp -dsimp
        simp [actOf,hyes,g1p,er,g2]
  · have b6:(ek == 6) = false:=by simp [k6]
    by_cases k7:ek = 7
    · subst k7
      have hpl:actPlace s ⟨7,eo,eky,ev,ep⟩ = placeIn s eo ep:=by simp [actPlace]
      have er:actRaw s rep time ⟨7,eo,eky,ev,ep⟩ = ⟨⟨rep,nth s.know rep.toNat + 1⟩,time,s.know,7,eo,eky,ev,(placeIn s eo (ep)).1⟩:=by simp [actRaw,hpl,zeroDot]
      rw [er] at hraw
      simp -dsimp [q1,ne_of_lt q1,wk,wp]
      repeat (first|refine ⟨by omega,?_⟩|refine ⟨by simp [capMax];omega,?_⟩|refine ⟨⟨by omega,by omega⟩,?_⟩)
      refine ACallK_of (f200_ok s eo (ep) hs (by omega)) ?_
      simp -dsimp [wk]
      refine ACallK_of (f129_ok ⟨rep,nth s.know rep.toNat + 1⟩) ?_
      by_cases kl:1000 ≤ nth s.know rep.toNat
      · have hno:actPre s rep time ⟨7,eo,eky,ev,ep⟩ = false:=by simp [actPre]; intros; omega
        have hd:dotOk ⟨rep,nth s.know rep.toNat + 1⟩ = false:=by simp [dotOk,spIn]; intros; omega
        rw [hd]
        simp -dsimp
        simp [actOf,hno,zeroAct]
      have hyes:actPre s rep time ⟨7,eo,eky,ev,ep⟩ = true:=by simp [actPre,ks,ke,kr,kt]; omega
      have hd:dotOk ⟨rep,nth s.know rep.toNat + 1⟩ = true:=by simp [dotOk,spIn]; omega
      rw [hd]
      cases g1:(placeIn s eo (ep)).2
      · simp -dsimp [wk]
        simp [actOf,hyes,hpl,g1,zeroAct]
      have g1p:(actPlace s ⟨7,eo,eky,ev,ep⟩).2 = true:=by rw [hpl]; exact g1
      simp -dsimp [wk]
      refine ACallK_of (f201_ok ⟨⟨rep,nth s.know rep.toNat + 1⟩,time,s.know,7,eo,eky,ev,(placeIn s eo (ep)).1⟩ hraw) ?_
      cases g2:actOk ⟨⟨rep,nth s.know rep.toNat + 1⟩,time,s.know,7,eo,eky,ev,(placeIn s eo (ep)).1⟩
      · simp -dsimp
        simp [actOf,hyes,g1p,er,g2,zeroAct]
      · simp -dsimp
        simp [actOf,hyes,g1p,er,g2]
    · have b7:(ek == 7) = false:=by simp [k7]
      have hpl:actPlace s ⟨ek,eo,eky,ev,ep⟩ = (zeroDot,true):=by simp [actPlace,k6,k7]
      have er:actRaw s rep time ⟨ek,eo,eky,ev,ep⟩ = ⟨⟨rep,nth s.know rep.toNat + 1⟩,time,s.know,ek,eo,eky,ev,⟨0,0⟩⟩:=by simp [actRaw,hpl,zeroDot]
      rw [er] at hraw
      simp -dsimp [q1,ne_of_lt q1,wk,wp,b6,b7,k6,k7]
      repeat (first|refine ⟨by omega,?_⟩|refine ⟨by simp [capMax];omega,?_⟩|refine ⟨⟨by omega,by omega⟩,?_⟩)
      refine ACallK_of (f129_ok ⟨rep,nth s.know rep.toNat + 1⟩) ?_
      by_cases kl:1000 ≤ nth s.know rep.toNat
      · have hno:actPre s rep time ⟨ek,eo,eky,ev,ep⟩ = false:=by simp [actPre]; intros; omega
        have hd:dotOk ⟨rep,nth s.know rep.toNat + 1⟩ = false:=by simp [dotOk,spIn]; intros; omega
        rw [hd]
        simp -dsimp
        simp [actOf,hno,zeroAct]
      have hyes:actPre s rep time ⟨ek,eo,eky,ev,ep⟩ = true:=by simp [actPre,ks,ke,kr,kt]; omega
      have hd:dotOk ⟨rep,nth s.know rep.toNat + 1⟩ = true:=by simp [dotOk,spIn]; omega
      rw [hd]
      have g1p:(actPlace s ⟨ek,eo,eky,ev,ep⟩).2 = true:=by rw [hpl]
      simp -dsimp [wk]
      refine ACallK_of (f201_ok ⟨⟨rep,nth s.know rep.toNat + 1⟩,time,s.know,ek,eo,eky,ev,⟨0,0⟩⟩ hraw) ?_
      cases g2:actOk ⟨⟨rep,nth s.know rep.toNat + 1⟩,time,s.know,ek,eo,eky,ev,⟨0,0⟩⟩
      · simp -dsimp
        simp [actOf,hyes,g1p,er,g2,zeroAct]
      · simp -dsimp
        simp [actOf,hyes,g1p,er,g2]
end Am
namespace Am
open Go
def timeK (l:List GCell):Nat → Int
  | 0 => 0
  | i + 1 => if timeK l i < (nth l i).time then (nth l i).time else timeK l i
def timeOf (s:GState):Int:=timeK s.cs s.cs.length
theorem timeK_bd (l:List GCell) {m:Int} (hm:0 ≤ m) (h:∀ x,x ∈ l → x.time ≤ m):∀ i:Nat,i ≤ l.length → 0 ≤ timeK l i ∧ timeK l i ≤ m
  | 0,_ => by simp only [timeK]; omega
  | i + 1,hi => by
    have h1:=timeK_bd l hm h i (by omega)
    have h2:=h _ (nth_mem (show i < l.length by omega))
    rw [timeK]
    split <;> omega
theorem timeOf_bd {s:GState} (h:SOK s):0 ≤ timeOf s ∧ timeOf s ≤ 10000 :=
  timeK_bd s.cs (by omega) (fun x hx => by
    have:=(h.c2 x hx).2
    simp only [cellOk',cellOk,spIn,Bool.and_eq_true,decide_eq_true_eq] at this
    omega) s.cs.length (Nat.le_refl _)
end Am
namespace Am
open Go Go.Proofs
open Cel (cells)
set_option maxRecDepth 100000
def drawsK (c:GCur) (n:Int):Nat → List Int × GCur
  | 0 => ([],c)
  | i + 1 => ((drawsK c n i).1 ++ [(curN (drawsK c n i).2 n).1],(curN (drawsK c n i).2 n).2)
theorem drawsK_ok {c:GCur} (h:c.Ok) (n:Int):∀ i,(drawsK c n i).2.Ok
  | 0 => h
  | i + 1 => curN_ok (drawsK_ok h n i) n
theorem drawsK_len (c:GCur) (n:Int):∀ i,(drawsK c n i).1.length = i
  | 0 => rfl
  | i + 1 => by simp [drawsK,drawsK_len c n i]
theorem drawsK_bd (c:GCur) {n:Int} (hn:0 < n):∀ i x,x ∈ (drawsK c n i).1 → 0 ≤ x ∧ x < n
  | 0,x,h => by cases h
  | i + 1,x,h => by
    simp only [drawsK,List.mem_append,List.mem_singleton] at h
    rcases h with h | rfl
    · exact drawsK_bd c hn i x h
    · exact curN_bd _ hn
def objs:List ByteArray:=[⟨#[97]⟩,⟨#[98]⟩,⟨#[116,97,108,108,121]⟩]
def keys:List ByteArray:=[⟨#[120]⟩,⟨#[121]⟩,⟨#[122,111,111]⟩]
def kinds:List Int:=[1,2,3,4,5,6,6,6,7]
def vals:List Int:=[0,1,7,999999]
theorem objs_ok (c:GCur):nameOk (curPick c objs).1 = true ∧ (curPick c objs).1.size ≤ 8:=by
  have h:=curPick_mem c (l:=objs) (by simp [objs])
  generalize (curPick c objs).1 = x at h
  simp only [objs,List.mem_cons,List.not_mem_nil,or_false] at h
  rcases h with rfl | rfl | rfl <;> decide
theorem keys_ok (c:GCur):nameOk (curPick c keys).1 = true ∧ (curPick c keys).1.size ≤ 8:=by
  have h:=curPick_mem c (l:=keys) (by simp [keys])
  generalize (curPick c keys).1 = x at h
  simp only [keys,List.mem_cons,List.not_mem_nil,or_false] at h
  rcases h with rfl | rfl | rfl <;> decide
theorem vals_ok (c:GCur):0 ≤ (curPick c vals).1 ∧ (curPick c vals).1 ≤ 999999:=by
  have h:=curPick_mem c (l:=vals) (by simp [vals])
  generalize (curPick c vals).1 = x at h
  simp only [vals,List.mem_cons,List.not_mem_nil,or_false] at h
  omega
theorem kinds_ok (c:GCur):1 ≤ (curPick c kinds).1 ∧ (curPick c kinds).1 ≤ 7:=by
  have h:=curPick_mem c (l:=kinds) (by simp [kinds])
  generalize (curPick c kinds).1 = x at h
  simp only [kinds,List.mem_cons,List.not_mem_nil,or_false] at h
  omega
@[simp] def h203:Hts:={ merge:=fun _ => false,lend:=fun f => if f = 225 then [.box [],.lend] else [] }
theorem f203_ok (c:GCur) (hc:c.Ok):FnW Tryz.prog 203 [.ptr [.im c.b.length (flat c.b),.int .i64 c.i,.int .i64 c.h]] (.v (.str ((curPick c objs).1))) [.ptr [.im ((curPick c objs).2).b.length (flat ((curPick c objs).2).b),.int .i64 ((curPick c objs).2).i,.int .i64 ((curPick c objs).2).h]]:=by
  refine FnW.of_AW TryzT_ok 1 (fn:=Tryz.f203) (by kernel_rfl) rfl (by kernel_rfl) rfl rfl rfl ?_; refine AW_of h203 TryzT_ok (by kernel_rfl) ?_
  simp -dsimp
  refine ACallW_go ?_
  refine ACallC_go (fun us => f225_ok c hc objs (by simp [objs])) ?_
  simp -dsimp
@[simp] def h205:Hts:={ merge:=fun _ => false,lend:=fun f => if f = 225 then [.box [],.lend] else [] }
theorem f205_ok (c:GCur) (hc:c.Ok):FnW Tryz.prog 205 [.ptr [.im c.b.length (flat c.b),.int .i64 c.i,.int .i64 c.h]] (.v (.str ((curPick c keys).1))) [.ptr [.im ((curPick c keys).2).b.length (flat ((curPick c keys).2).b),.int .i64 ((curPick c keys).2).i,.int .i64 ((curPick c keys).2).h]]:=by
  refine FnW.of_AW TryzT_ok 1 (fn:=Tryz.f205) (by kernel_rfl) rfl (by kernel_rfl) rfl rfl rfl ?_; refine AW_of h205 TryzT_ok (by kernel_rfl) ?_
  simp -dsimp
  refine ACallW_go ?_
  refine ACallC_go (fun us => f225_ok c hc keys (by simp [keys])) ?_
  simp -dsimp
@[simp] def h176:Hts:={ merge:=fun _ => false }
set_option maxHeartbeats 1000000 in
theorem f176_ok (s:GState) (hs:s.cs.length ≤ 1073741824):FnR Tryz.prog 176 [.agg [.im s.know.length (flat s.know),.im s.tallies.length (flat s.tallies),.im s.lives.length (flat s.lives),.im s.cs.length (flat s.cs)]] (.v (.int .i64 (timeOf s))):=by
  refine FnW.of_AW TryzT_ok 0 (fn:=Tryz.f176) (by kernel_rfl) rfl (by kernel_rfl) rfl rfl rfl ?_; refine AW_of h176 TryzT_ok (by kernel_rfl) ?_
  simp -dsimp
  refine AWh_loop (fun i:Nat => i ≤ s.cs.length) (fun i => mkE [(1,.box 64 0),(3,.c (.int .i64 (timeK s.cs i))),(4,.c (.int .i64 i))] [(64,.box [.c (.im s.know.length (flat s.know)),.c (.im s.tallies.length (flat s.tallies)),.c (.im s.lives.length (flat s.lives)),.c (.im s.cs.length (flat s.cs))])]) (fun i => s.cs.length - i) 0 (Wk_to [1,3,4] [(64,64)] rfl rfl (by simp [timeK])) (by simp) ?_
  rintro i hi
  refine AW_of h176 TryzT_ok (by kernel_rfl) ?_
  have wi:IntKind.i64.wrap ((i:Int) + 1) = i + 1:=wrap64 (by omega) (by omega)
  rcases Nat.lt_or_ge i s.cs.length with q1 | q1
  · by_cases q2:timeK s.cs i < (nth s.cs i).time
    · simp -dsimp [q1,ne_of_lt q1,q2,wi]
      exact Back_of (i + 1) [1,3,4] [(64,64)] rfl rfl (by simp [timeK,q2]) (by omega) (by omega)
    · simp -dsimp [q1,ne_of_lt q1,q2,Int.not_lt.1 q2,wi]
      exact Back_of (i + 1) [1,3,4] [(64,64)] rfl rfl (by simp [timeK,q2]) (by omega) (by omega)
  · obtain rfl:i = s.cs.length:=by omega
    simp -dsimp
    simp [timeOf]
end Am
namespace Am
open Go Go.Proofs
open Cel (cells)
set_option maxRecDepth 100000
theorem str_nilV {s:ByteArray}:(s.toList = [] ↔ s = ⟨#[]⟩):=by
  rw [ByteArray.toList_eq]
  constructor
  · intro h
    cases s
    simp only at h
    simp [Array.toList_eq_nil_iff.1 h]
  · rintro rfl; rfl
def edK (c:GCur):Int × GCur:=curPick c kinds
def edO (c:GCur):ByteArray × GCur:=curPick (edK c).2 objs
def edY (c:GCur):ByteArray × GCur:=if spIn (edK c).1 2 5 = true then curPick (edO c).2 keys else (⟨#[]⟩,(edO c).2)
def edV (c:GCur):Int × GCur:=if valued (edK c).1 = true then curPick (edY c).2 vals else (0,(edY c).2)
def edP (c:GCur):Int × GCur:=if 6 ≤ (edK c).1 then curN (edV c).2 3 else (0,(edV c).2)
def editD (c:GCur):GEdit × GCur:=(⟨(edK c).1,(edO c).1,(edY c).1,(edV c).1,(edP c).1⟩,(edP c).2)
theorem edO_ok {c:GCur} (h:c.Ok):(edO c).2.Ok:=curPick_ok (curPick_ok h _) _
theorem edY_ok {c:GCur} (h:c.Ok):(edY c).2.Ok:=by
  unfold edY
  split
  · exact curPick_ok (edO_ok h) _
  · exact edO_ok h
theorem edV_ok {c:GCur} (h:c.Ok):(edV c).2.Ok:=by
  unfold edV
  split
  · exact curPick_ok (edY_ok h) _
  · exact edY_ok h
theorem editD_ok {c:GCur} (h:c.Ok):(editD c).2.Ok:=by
  show (edP c).2.Ok
  unfold edP
  split
  · exact curN_ok (edV_ok h) _
  · exact edV_ok h
theorem editD_good (c:GCur):editOk (editD c).1 = true ∧ (editD c).1.obj.size ≤ 8 ∧ (editD c).1.key.size ≤ 8 ∧ 0 ≤ (editD c).1.place ∧ (editD c).1.place ≤ 2:=by
  have hk:=kinds_ok c
  have ho:=objs_ok (edK c).2
  have hp:0 ≤ (edP c).1 ∧ (edP c).1 ≤ 2 ∧ ((edP c).1 = 0 ∨ 6 ≤ (edK c).1):=by
    unfold edP
    split
    · have:=curN_bd (edV c).2 (n:=3) (by decide); omega
    · exact ⟨by simp,by simp,.inl rfl⟩
  have hy:(edY c).1.size ≤ 8 ∧ ((spIn (edK c).1 2 5 = true ∧ nameOk (edY c).1 = true) ∨ (spIn (edK c).1 2 5 = false ∧ (edY c).1 = ⟨#[]⟩)):=by
    unfold edY
    split
    · rename_i h; have:=keys_ok (edO c).2; exact ⟨this.2,.inl ⟨h,this.1⟩⟩
    · rename_i h; exact ⟨Nat.zero_le _,.inr ⟨by simpa using h,rfl⟩⟩
  have hv:0 ≤ (edV c).1 ∧ (edV c).1 ≤ 999999 ∧ ((edV c).1 = 0 ∨ valued (edK c).1 = true):=by
    unfold edV
    split
    · rename_i h; have:=vals_ok (edY c).2; exact ⟨this.1,this.2,.inr h⟩
    · simp
  refine ⟨?_,ho.2,hy.1,hp.1,hp.2.1⟩
  show editOk ⟨(edK c).1,(edO c).1,(edY c).1,(edV c).1,(edP c).1⟩ = true
  have ho':nameOk (edO c).1 = true:=ho.1
  generalize hK:(edK c).1 = k at *
  have hk':1 ≤ k ∧ k ≤ 7:=by rw [← hK]; exact hk
  simp only [editOk,plain,Bool.and_eq_true,Bool.or_eq_true,decide_eq_true_eq,beq_iff_eq]
  refine ⟨⟨⟨⟨by simp [spIn]; omega,ho'⟩,?_⟩,?_⟩,by omega⟩
  · rcases hy.2 with ⟨h1,h2⟩ | ⟨h1,h2⟩
    · rw [if_pos h1]; exact h2
    · rw [if_neg (by simp [h1]),h2]; exact decide_eq_true (str_nilV.2 rfl)
  · rcases hv.2.2 with h | h
    · exact .inl h
    · exact .inr ⟨h,by simp [spIn]; omega⟩
@[simp] def h177:Hts:={ merge:=fun _ => false,mergeF:=fun _ => false,lend:=fun f => if f = 225 || f = 202 then [.box [],.lend] else if f = 203 || f = 205 || f = 50 then [.box []] else [] }
set_option maxHeartbeats 4000000 in
theorem f177_ok (c:GCur) (hc:c.Ok):FnW Tryz.prog 177 [.ptr [.im c.b.length (flat c.b),.int .i64 c.i,.int .i64 c.h]] (.agg [.int .i64 ((editD c).1).kind,.str ((editD c).1).obj,.str ((editD c).1).key,.int .i64 ((editD c).1).val,.int .i64 ((editD c).1).place]) [.ptr [.im ((editD c).2).b.length (flat ((editD c).2).b),.int .i64 ((editD c).2).i,.int .i64 ((editD c).2).h]]:=by
  have hk:=kinds_ok c
  refine FnW.of_AW TryzT_ok 1 (fn:=Tryz.f177) (by kernel_rfl) rfl (by kernel_rfl) rfl rfl rfl ?_; refine AW_of h177 TryzT_ok (by kernel_rfl) ?_
  simp -dsimp
  refine ACallW_go ?_
  refine ACallC_go (fun us => f202_ok c hc kinds (by simp [kinds])) ?_
  simp -dsimp
  refine ACallW_go ?_
  refine ACallC_of (fun us => f203_ok (edK c).2 (curPick_ok hc _)) (by intro us; simp -dsimp [edK]; exact ⟨rfl,rfl⟩) ?_
  simp -dsimp
  refine ACallK_of (f204_ok _) ?_
  have key:(curPick c kinds).1 = 1 ∨ (curPick c kinds).1 = 2 ∨ (curPick c kinds).1 = 3 ∨ (curPick c kinds).1 = 4 ∨ (curPick c kinds).1 = 5 ∨ (curPick c kinds).1 = 6 ∨ (curPick c kinds).1 = 7:=by omega
  rcases key with e | e | e | e | e | e | e
  · have s1:spIn 1 2 5 = false:=by decide
    have s2:valued 1 = true:=by decide
    simp -dsimp [e,s1]
    refine ACallK_of (f206_ok _) ?_
    simp -dsimp [e,s2]
    refine ACallW_go ?_
    refine ACallC_of (fun us => f202_ok (edO c).2 (edO_ok hc) vals (by simp [vals])) (by intro us; simp -dsimp [edO,edK]; exact ⟨rfl,rfl⟩) ?_
    simp -dsimp [e]
    simp [editD,edP,edV,edY,edO,edK,e,s1,s2]
  · have s1:spIn 2 2 5 = true:=by decide
    have s2:valued 2 = false:=by decide
    simp -dsimp [e,s1]
    refine ACallW_go ?_
    refine ACallC_of (fun us => f205_ok (edO c).2 (edO_ok hc)) (by intro us; simp -dsimp [edO,edK]; exact ⟨rfl,rfl⟩) ?_
    simp -dsimp [e]
    refine ACallK_of (f206_ok _) ?_
    simp -dsimp [e,s2]
    simp [editD,edP,edV,edY,edO,edK,e,s1,s2]
  · have s1:spIn 3 2 5 = true:=by decide
    have s2:valued 3 = false:=by decide
    simp -dsimp [e,s1]
    refine ACallW_go ?_
    refine ACallC_of (fun us => f205_ok (edO c).2 (edO_ok hc)) (by intro us; simp -dsimp [edO,edK]; exact ⟨rfl,rfl⟩) ?_
    simp -dsimp [e]
    refine ACallK_of (f206_ok _) ?_
    simp -dsimp [e,s2]
    simp [editD,edP,edV,edY,edO,edK,e,s1,s2]
  · have s1:spIn 4 2 5 = true:=by decide
    have s2:valued 4 = true:=by decide
    simp -dsimp [e,s1]
    refine ACallW_go ?_
    refine ACallC_of (fun us => f205_ok (edO c).2 (edO_ok hc)) (by intro us; simp -dsimp [edO,edK]; exact ⟨rfl,rfl⟩) ?_
    simp -dsimp [e]
    refine ACallK_of (f206_ok _) ?_
    simp -dsimp [e,s2]
    refine ACallW_go ?_
    refine ACallC_of (fun us => f202_ok (curPick (edO c).2 keys).2 (curPick_ok (edO_ok hc) _) vals (by simp [vals])) (by intro us; simp -dsimp [edO,edK]; exact ⟨rfl,rfl⟩) ?_
    simp -dsimp [e]
    simp [editD,edP,edV,edY,edO,edK,e,s1,s2]
  · have s1:spIn 5 2 5 = true:=by decide
    have s2:valued 5 = false:=by decide
    simp -dsimp [e,s1]
    refine ACallW_go ?_
    refine ACallC_of (fun us => f205_ok (edO c).2 (edO_ok hc)) (by intro us; simp -dsimp [edO,edK]; exact ⟨rfl,rfl⟩) ?_
    simp -dsimp [e]
    refine ACallK_of (f206_ok _) ?_
    simp -dsimp [e,s2]
    simp [editD,edP,edV,edY,edO,edK,e,s1,s2]
  · have s1:spIn 6 2 5 = false:=by decide
    have s2:valued 6 = true:=by decide
    simp -dsimp [e,s1]
    refine ACallK_of (f206_ok _) ?_
    simp -dsimp [e,s2]
    refine ACallW_go ?_
    refine ACallC_of (fun us => f202_ok (edO c).2 (edO_ok hc) vals (by simp [vals])) (by intro us; simp -dsimp [edO,edK]; exact ⟨rfl,rfl⟩) ?_
    simp -dsimp [e]
    refine ACallW_go ?_
    refine ACallC_of (fun us => f50_ok (curPick (edO c).2 vals).2 (curPick_ok (edO_ok hc) _) 3) (by intro us; simp -dsimp [edO,edK]; exact ⟨rfl,rfl⟩) ?_
    simp -dsimp [e]
    simp [editD,edP,edV,edY,edO,edK,e,s1,s2]
  · have s1:spIn 7 2 5 = false:=by decide
    have s2:valued 7 = false:=by decide
    simp -dsimp [e,s1]
    refine ACallK_of (f206_ok _) ?_
    simp -dsimp [e,s2]
    refine ACallW_go ?_
    refine ACallC_of (fun us => f50_ok (edO c).2 (edO_ok hc) 3) (by intro us; simp -dsimp [edO,edK]; exact ⟨rfl,rfl⟩) ?_
    simp -dsimp [e]
    simp [editD,edP,edV,edY,edO,edK,e,s1,s2]
end Am
namespace Am
open Go
theorem actOf_ok {s:GState} {rep time:Int} {e:GEdit} (hs:s.Ok) (h1:e.obj.size ≤ 1073741824) (h2:e.key.size ≤ 1073741824):(actOf s rep time e).1.Ok:=by
  unfold actOf
  split
  · simp only [zeroAct,GAct.Ok]; exact ⟨by simp,Nat.zero_le _,Nat.zero_le _⟩
  split
  · simp only [zeroAct,GAct.Ok]; exact ⟨by simp,Nat.zero_le _,Nat.zero_le _⟩
  split
  · simp only [zeroAct,GAct.Ok]; exact ⟨by simp,Nat.zero_le _,Nat.zero_le _⟩
  · simp only [GState.Ok] at hs
    simp only [GAct.Ok]; exact ⟨hs.1,h1,h2⟩
theorem nameOk_sizeU {s:ByteArray} (h:nameOk s = true):s.size ≤ 8:=by
  simp only [nameOk,spIn,Bool.and_eq_true,decide_eq_true_eq] at h
  omega
theorem sok_Ok {s:GState} (h:SOK s):s.Ok:=by
  have hk:=h.k
  have h1:=h.t1
  have h2:=h.l1
  have h3:=h.c1
  simp only [knowOk,Bool.and_eq_true,decide_eq_true_eq] at hk
  simp only [GState.Ok]
  refine ⟨by omega,by omega,fun y hy => ?_,by omega,fun y hy => ?_,by omega,fun y hy => ?_⟩
  · have:=h.t2 y hy
    simp only [tallyOk,Bool.and_eq_true] at this
    simp only [GTally.Ok]
    have:=nameOk_sizeU this.1.1
    omega
  · have:=(h.l2 y hy).2
    simp only [liveOk,Bool.and_eq_true] at this
    simp only [GLive.Ok]
    have h4:=nameOk_sizeU this.1.1.1
    have h5:=nameOk_sizeU this.1.1.2
    omega
  · have:=(h.c2 y hy).2
    simp only [cellOk',Bool.and_eq_true] at this
    simp only [GCell.Ok]
    have:=nameOk_sizeU this.1.1
    omega
end Am
namespace Am
open Go Go.Proofs
open Cel (cells)
set_option maxRecDepth 100000
def stateNew:GState:=⟨[0,0,0],[],[],[]⟩
@[simp] def h172:Hts:={  }
theorem f172_ok:FnR Tryz.prog 172 [] (.v (.ow 3 1 (([0,0,0]:List Int)).length (flat (([0,0,0]:List Int))))):=by
  refine FnW.of_AW TryzT_ok 0 (fn:=Tryz.f172) (by kernel_rfl) rfl (by kernel_rfl) rfl rfl rfl ?_; refine AW_of h172 TryzT_ok (by kernel_rfl) ?_
  simp -dsimp
  exact ⟨by decide,rfl⟩
@[simp] def h132:Hts:={  }
theorem f132_ok:FnR Tryz.prog 132 [] (.agg [.ow 3 1 stateNew.know.length (flat stateNew.know),.ow 104 3 stateNew.tallies.length (flat stateNew.tallies),.ow 98 6 stateNew.lives.length (flat stateNew.lives),.ow 100 8 stateNew.cs.length (flat stateNew.cs)]):=by
  rw [stateNew]
  refine FnW.of_AW TryzT_ok 0 (fn:=Tryz.f132) (by kernel_rfl) rfl (by kernel_rfl) rfl rfl rfl ?_; refine AW_of h132 TryzT_ok (by kernel_rfl) ?_
  simp -dsimp
  refine ACallK_of (f172_ok) ?_
  simp -dsimp
end Am
