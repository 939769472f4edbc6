/- Texts of states and of what changed. No condition. -/
import Derived.Test.YtjbbhccphedkfaaGreatT
import Derived.Test.YtjbbhccphedkfaaGreatD
import Derived.Test.YtjbbhccphedkfaaGreatE62
import Derived.Test.YtjbbhccphedkfaaGreatE34
import Derived.Test.YtjbbhccphedkfaaGreatAm31
set_option linter.unusedSimpArgs false
set_option linter.unusedVariables false
set_option linter.unnecessarySimpa false
set_option linter.unusedSectionVars false
namespace Am
open Go Go.Proofs
open Cel (cells)
set_option maxRecDepth 100000
def sealOk (t:ByteArray):Bool:=decide (t.size ≤ 20000)
def sealS (t:ByteArray):ByteArray:=if t.size ≤ 20000 then t ++ fourS (sumOf t) else ⟨#[]⟩
theorem fourS_size (s:Int):(fourS s).size = 4:=by rw [fourS,str_size]; rfl
@[simp] def h54:Hts:={  }
theorem f54_ok (t:ByteArray) (ht:t.size ≤ 1073741824):FnR Tryz.prog 54 [.v (.str t)] (.tup [.v (.str (sealS t)),.v (.bool (sealOk t))]):=by
  have hr:=sumOf_range t
  have hf:=fourS_size (sumOf t)
  refine FnW.of_AW TryzT_ok 0 (fn:=Tryz.f54) (by kernel_rfl) rfl (by kernel_rfl) rfl rfl rfl ?_; refine AW_of h54 TryzT_ok (by kernel_rfl) ?_
  by_cases h:t.size ≤ 20000
  · have hi:¬ (20000:Int) < t.size:=by omega
    have hj:(t.size:Int) ≤ 20000:=by omega
    simp -dsimp [hi,hj]
    refine ACallK_of (f122_ok _ ht) ?_
    simp -dsimp
    refine ACallK_of (f121_ok _ hr.1 hr.2) ?_
    simp -dsimp
    exact ⟨by simp [capMax]; omega,by simp [sealS,h],by simp [sealOk,h]⟩
  · have hi:(20000:Int) < t.size:=by omega
    have hj:¬ (t.size:Int) ≤ 20000:=by omega
    simp -dsimp [hi,hj]
    simp [sealS,sealOk,h]
@[simp] def h35:Hts:={  }
theorem f35_ok (t:ByteArray) (ht:t.size ≤ 1073741824):FnR Tryz.prog 35 [.v (.str t)] (.tup [.v (.str (sealS t)),.v (.bool (sealOk t))]):=by
  have hr:=sumOf_range t
  have hf:=fourS_size (sumOf t)
  refine FnW.of_AW TryzT_ok 0 (fn:=Tryz.f35) (by kernel_rfl) rfl (by kernel_rfl) rfl rfl rfl ?_; refine AW_of h35 TryzT_ok (by kernel_rfl) ?_
  by_cases h:t.size ≤ 20000
  · have hi:¬ (20000:Int) < t.size:=by omega
    have hj:(t.size:Int) ≤ 20000:=by omega
    simp -dsimp [hi,hj]
    refine ACallK_of (f103_ok _ ht) ?_
    simp -dsimp
    rw [wrap64 (by omega) (by omega)]
    refine ACallK_of (f102_ok _ hr.1 hr.2) ?_
    simp -dsimp
    exact ⟨by simp [capMax]; omega,by simp [sealS,h],by simp [sealOk,h]⟩
  · have hi:(20000:Int) < t.size:=by omega
    have hj:¬ (t.size:Int) ≤ 20000:=by omega
    simp -dsimp [hi,hj]
    simp [sealS,sealOk,h]
def talR (t:GTally):Prop:=t.obj.size ≤ 8 ∧ numOk t.rep ∧ numOk t.sum
def dotR (d:GDot):Prop:=numOk d.rep ∧ numOk d.seq
def liveR (x:GLive):Prop:=x.obj.size ≤ 8 ∧ x.key.size ≤ 8 ∧ numOk x.val ∧ dotR x.dot
def cellR (x:GCell):Prop:=x.obj.size ≤ 8 ∧ dotR x.dot ∧ numOk x.time ∧ dotR x.ref ∧ numOk x.val
theorem shortS_size {s:ByteArray} (h:s.size ≤ 8):(shortS s).size ≤ 13:=by
  have h5:(varS s.size).size ≤ 5:=varS_five (by omega)
  rw [shortS,ByteArray.size_append]; omega
theorem varS_size {n:Int} (h:numOk n):(varS n).size ≤ 5:=varS_five h.2
theorem dotS_size {d:GDot} (h:dotR d):(dotS d).size ≤ 10:=by
  have:=varS_size h.1
  have:=varS_size h.2
  rw [dotS,ByteArray.size_append]; omega
theorem flagS_size (b:Bool):(flagS b).size = 1:=by rw [flagS,str_size]; rfl
def talS (t:GTally):ByteArray:=shortS t.obj ++ (varS t.rep ++ varS t.sum)
def liveS (x:GLive):ByteArray:=flagS x.map ++ ((shortS x.obj ++ shortS x.key) ++ (varS x.val ++ dotS x.dot))
def cellS (x:GCell):ByteArray:=shortS x.obj ++ (dotS x.dot ++ (varS x.time ++ (dotS x.ref ++ (varS x.val ++ flagS x.gone))))
def talF (l:List GTally) (i:Nat):ByteArray:=talS (nth l i)
def liveF (l:List GLive) (i:Nat):ByteArray:=liveS (nth l i)
def cellF (l:List GCell) (i:Nat):ByteArray:=cellS (nth l i)
def dotF (l:List GDot) (i:Nat):ByteArray:=dotS (nth l i)
theorem talS_size {t:GTally} (h:talR t):(talS t).size ≤ 100:=by
  have:=shortS_size h.1
  have:=varS_size h.2.1
  have:=varS_size h.2.2
  simp only [talS,ByteArray.size_append]; omega
theorem liveS_size {t:GLive} (h:liveR t):(liveS t).size ≤ 100:=by
  obtain ⟨h1,h2,h3,h4⟩:=h
  have:=shortS_size h1
  have:=shortS_size h2
  have:=varS_size h3
  have:=dotS_size h4
  have:=flagS_size t.map
  simp only [liveS,ByteArray.size_append]; omega
theorem cellS_size {t:GCell} (h:cellR t):(cellS t).size ≤ 100:=by
  obtain ⟨h1,h2,h3,h4,h5⟩:=h
  have:=shortS_size h1
  have:=dotS_size h2
  have:=varS_size h3
  have:=dotS_size h4
  have:=varS_size h5
  have:=flagS_size t.gone
  simp only [cellS,ByteArray.size_append]; omega
def talsS (l:List GTally):ByteArray:=varS l.length ++ catN (talF l) l.length
def livesS (l:List GLive):ByteArray:=varS l.length ++ catN (liveF l) l.length
def cellsS (l:List GCell):ByteArray:=varS l.length ++ catN (cellF l) l.length
def dotsS (l:List GDot):ByteArray:=varS l.length ++ catN (dotF l) l.length
@[simp] def h117:Hts:={ dr:=fun id => if id = 5 then [{ mb:=[20,27,34] },{},{},{},{},{},{ cr:=true },{ mb:=[27,34] },{ mb:=[20] },{ mb:=[20] },{ mb:=[20] },{ mb:=[20] },{ mb:=[20] },{ cr:=true },{ mb:=[34] },{ mb:=[20,27] },{ mb:=[20,27] },{ mb:=[20,27] },{ mb:=[20,27] },{ mb:=[20,27] },{ cr:=true },{},{}] else [] }
set_option maxHeartbeats 1000000 in
theorem f117_ok (l:List GTally) (ha:l.length ≤ 120) (hx:∀ i:Nat,i < l.length → talR (nth l i)):FnR Tryz.prog 117 [.v (.im l.length (flat l))] (.v (.str (talsS l))):=by
  have hv:(varS l.length).size ≤ 5:=varS_five (by omega)
  refine FnW.of_AW TryzT_ok 0 (fn:=Tryz.f117) (by kernel_rfl) rfl (by kernel_rfl) rfl rfl rfl ?_; refine AW_of h117 TryzT_ok (by kernel_rfl) ?_
  simp -dsimp
  refine ACallK_of (f126_ok _ (by omega) (by omega)) ?_
  simp -dsimp
  refine AWh_loop (fun i:Nat => i ≤ l.length) (fun i => mkE [(0,.c (.im l.length (flat l))),(3,.c (.str (varS l.length ++ catN (talF l) i))),(4,.c (.int .i64 i))] []) (fun i => l.length - i) 0 (Wk_to [0,3,4] [] rfl rfl (by simp [catN,app_nil])) (by simp) ?_
  rintro i hi
  have hs:(catN (talF l) i).size ≤ i * 100:=catN_size fun j hj => talS_size (hx j (by omega))
  refine AW_of h117 TryzT_ok (by kernel_rfl) ?_
  rcases Nat.lt_or_ge i l.length with h1 | h1
  · have hr:=hx i h1
    have q1:=shortS_size hr.1; have q2:=varS_size hr.2.1; have q3:=varS_size hr.2.2
    simp -dsimp [h1,ne_of_lt h1]
    repeat (first | refine ⟨by omega,?_⟩ | refine ⟨by simp [capMax,ByteArray.size_append]; omega,?_⟩)
    refine ACallK_of (f167_ok _ (Nat.le_trans hr.1 (by decide))) ?_
    simp -dsimp [h1,ne_of_lt h1,shortsS_one,shortsS_two,varsS_one,varsS_two]
    repeat (first | refine ⟨by omega,?_⟩ | refine ⟨by simp [capMax,ByteArray.size_append]; omega,?_⟩)
    refine ACallK_of (f126_ok _ hr.2.1.1 hr.2.1.2) ?_
    simp -dsimp [h1,ne_of_lt h1,shortsS_one,shortsS_two,varsS_one,varsS_two]
    repeat (first | refine ⟨by omega,?_⟩ | refine ⟨by simp [capMax,ByteArray.size_append]; omega,?_⟩)
    refine ACallK_of (f126_ok _ hr.2.2.1 hr.2.2.2) ?_
    simp -dsimp [h1,ne_of_lt h1,shortsS_one,shortsS_two,varsS_one,varsS_two]
    repeat (first | refine ⟨by omega,?_⟩ | refine ⟨by simp [capMax,ByteArray.size_append]; omega,?_⟩)
    exact Back_of (i + 1) [0,3,4] [] rfl rfl (by simp [catN,talF,talS,app_assoc]; rw [wrap64 (by omega) (by omega)]) (by omega) (by omega)
  · obtain rfl:i = l.length:=by omega
    simp -dsimp
    rfl
@[simp] def h37:Hts:={ dr:=fun id => if id = 5 then [{ mb:=[19,20,25,26] },{ mb:=[25] },{ mb:=[25] },{ cr:=true,mb:=[25] },{ cr:=true,mb:=[25] },{ mb:=[19,20] },{ mb:=[19,20] },{ mb:=[19,20] },{ mb:=[19,20] },{ cr:=true,mb:=[19,20] },{ cr:=true },{},{},{}] else [] }
set_option maxHeartbeats 1000000 in
theorem f37_ok (l:List GTally) (ha:l.length ≤ 120) (hx:∀ i:Nat,i < l.length → talR (nth l i)):FnR Tryz.prog 37 [.v (.im l.length (flat l))] (.v (.str (talsS l))):=by
  have hv:(varS l.length).size ≤ 5:=varS_five (by omega)
  refine FnW.of_AW TryzT_ok 0 (fn:=Tryz.f37) (by kernel_rfl) rfl (by kernel_rfl) rfl rfl rfl ?_; refine AW_of h37 TryzT_ok (by kernel_rfl) ?_
  simp -dsimp
  refine ACallK_of (f36_ok [(l.length:Int)] (by simp) (by intro i hi; match i,hi with | 0,_ => exact ⟨show (0:Int) ≤ l.length by omega,show (l.length:Int) ≤ 1000000000 by omega⟩)) ?_
  simp -dsimp [varsS_one]
  refine AWh_loop (fun i:Nat => i ≤ l.length) (fun i => mkE [(3,.c (.str (varS l.length ++ catN (talF l) i))),(10,.c (.im l.length (flat l))),(11,.c (.int .i64 l.length)),(12,.c (.int .i64 i))] []) (fun i => l.length - i) 0 (Wk_to [3,10,11,12] [] rfl rfl (by simp [catN,app_nil])) (by simp) ?_
  rintro i hi
  have hs:(catN (talF l) i).size ≤ i * 100:=catN_size fun j hj => talS_size (hx j (by omega))
  refine AW_of h37 TryzT_ok (by kernel_rfl) ?_
  rcases Nat.lt_or_ge i l.length with h1 | h1
  · have hr:=hx i h1
    have q1:=shortS_size hr.1; have q2:=varS_size hr.2.1; have q3:=varS_size hr.2.2
    simp -dsimp [h1,ne_of_lt h1]
    repeat (first | refine ⟨by omega,?_⟩ | refine ⟨by simp [capMax,ByteArray.size_append]; omega,?_⟩)
    refine ACallK_of (f105_ok [(nth l i).obj] (by simp) (by intro i hi; match i,hi with | 0,_ => exact Nat.le_trans hr.1 (by decide))) ?_
    simp -dsimp [h1,ne_of_lt h1,shortsS_one,shortsS_two,varsS_one,varsS_two]
    repeat (first | refine ⟨by omega,?_⟩ | refine ⟨by simp [capMax,ByteArray.size_append]; omega,?_⟩)
    refine ACallK_of (f36_ok [(nth l i).rep,(nth l i).sum] (by simp) (by intro i hi; match i,hi with | 0,_ => exact hr.2.1 | 1,_ => exact hr.2.2)) ?_
    simp -dsimp [h1,ne_of_lt h1,shortsS_one,shortsS_two,varsS_one,varsS_two]
    repeat (first | refine ⟨by omega,?_⟩ | refine ⟨by simp [capMax,ByteArray.size_append]; omega,?_⟩)
    exact Back_of (i + 1) [3,10,11,12] [] rfl rfl (by simp [catN,talF,talS,app_assoc]; rw [wrap64 (by omega) (by omega)]) (by omega) (by omega)
  · obtain rfl:i = l.length:=by omega
    simp -dsimp
    rfl
@[simp] def h118:Hts:={ dr:=fun id => if id = 6 then [{ mb:=[22,26,30,34,38] },{},{},{ cr:=true },{ mb:=[26,30,34,38] },{ mb:=[22] },{ mb:=[22] },{ cr:=true },{ mb:=[30,34,38] },{ mb:=[22,26] },{ mb:=[22,26] },{ cr:=true },{ mb:=[34,38] },{ mb:=[22,26,30] },{ mb:=[22,26,30] },{ cr:=true },{ mb:=[38] },{ mb:=[22,26,30,34] },{ mb:=[22,26,30,34] },{ cr:=true },{},{}] else [] }
set_option maxHeartbeats 1000000 in
theorem f118_ok (l:List GLive) (ha:l.length ≤ 120) (hx:∀ i:Nat,i < l.length → liveR (nth l i)):FnR Tryz.prog 118 [.v (.im l.length (flat l))] (.v (.str (livesS l))):=by
  have hv:(varS l.length).size ≤ 5:=varS_five (by omega)
  refine FnW.of_AW TryzT_ok 0 (fn:=Tryz.f118) (by kernel_rfl) rfl (by kernel_rfl) rfl rfl rfl ?_; refine AW_of h118 TryzT_ok (by kernel_rfl) ?_
  simp -dsimp
  refine ACallK_of (f126_ok _ (by omega) (by omega)) ?_
  simp -dsimp
  refine AWh_loop (fun i:Nat => i ≤ l.length) (fun i => mkE [(0,.c (.im l.length (flat l))),(3,.c (.str (varS l.length ++ catN (liveF l) i))),(4,.c (.int .i64 i))] []) (fun i => l.length - i) 0 (Wk_to [0,3,4] [] rfl rfl (by simp [catN,app_nil])) (by simp) ?_
  rintro i hi
  have hs:(catN (liveF l) i).size ≤ i * 100:=catN_size fun j hj => liveS_size (hx j (by omega))
  refine AW_of h118 TryzT_ok (by kernel_rfl) ?_
  rcases Nat.lt_or_ge i l.length with h1 | h1
  · have hr:=hx i h1
    have q1:=shortS_size hr.1; have q2:=shortS_size hr.2.1; have q3:=varS_size hr.2.2.1; have q4:=dotS_size hr.2.2.2; have q5:=flagS_size (nth l i).map
    simp -dsimp [h1,ne_of_lt h1]
    repeat (first | refine ⟨by omega,?_⟩ | refine ⟨by simp [capMax,ByteArray.size_append]; omega,?_⟩)
    refine ACallK_of (f168_ok _) ?_
    simp -dsimp [h1,ne_of_lt h1,shortsS_one,shortsS_two,varsS_one,varsS_two]
    repeat (first | refine ⟨by omega,?_⟩ | refine ⟨by simp [capMax,ByteArray.size_append]; omega,?_⟩)
    refine ACallK_of (f167_ok _ (Nat.le_trans hr.1 (by decide))) ?_
    simp -dsimp [h1,ne_of_lt h1,shortsS_one,shortsS_two,varsS_one,varsS_two]
    repeat (first | refine ⟨by omega,?_⟩ | refine ⟨by simp [capMax,ByteArray.size_append]; omega,?_⟩)
    refine ACallK_of (f167_ok _ (Nat.le_trans hr.2.1 (by decide))) ?_
    simp -dsimp [h1,ne_of_lt h1,shortsS_one,shortsS_two,varsS_one,varsS_two]
    repeat (first | refine ⟨by omega,?_⟩ | refine ⟨by simp [capMax,ByteArray.size_append]; omega,?_⟩)
    refine ACallK_of (f126_ok _ hr.2.2.1.1 hr.2.2.1.2) ?_
    simp -dsimp [h1,ne_of_lt h1,shortsS_one,shortsS_two,varsS_one,varsS_two]
    repeat (first | refine ⟨by omega,?_⟩ | refine ⟨by simp [capMax,ByteArray.size_append]; omega,?_⟩)
    refine ACallK_of (f127_ok _ hr.2.2.2.1 hr.2.2.2.2) ?_
    simp -dsimp [h1,ne_of_lt h1,shortsS_one,shortsS_two,varsS_one,varsS_two]
    repeat (first | refine ⟨by omega,?_⟩ | refine ⟨by simp [capMax,ByteArray.size_append]; omega,?_⟩)
    exact Back_of (i + 1) [0,3,4] [] rfl rfl (by simp [catN,liveF,liveS,app_assoc]; rw [wrap64 (by omega) (by omega)]) (by omega) (by omega)
  · obtain rfl:i = l.length:=by omega
    simp -dsimp
    rfl
@[simp] def h38:Hts:={ dr:=fun id => if id = 5 then [{ mb:=[19,24,25,29,30,34] },{ mb:=[24,29] },{ mb:=[24,29] },{ cr:=true,mb:=[24,29] },{ mb:=[19,29] },{ mb:=[19,29] },{ mb:=[19,29] },{ mb:=[19,29] },{ cr:=true,mb:=[19,29] },{ cr:=true,mb:=[29] },{ mb:=[29,30,34] },{ mb:=[19,24,25] },{ mb:=[19,24,25] },{ cr:=true,mb:=[19,24,25] },{ cr:=true },{ mb:=[34] },{ mb:=[19,24,25,29,30] },{ mb:=[19,24,25,29,30] },{ cr:=true },{},{},{}] else [] }
set_option maxHeartbeats 1000000 in
theorem f38_ok (l:List GLive) (ha:l.length ≤ 120) (hx:∀ i:Nat,i < l.length → liveR (nth l i)):FnR Tryz.prog 38 [.v (.im l.length (flat l))] (.v (.str (livesS l))):=by
  have hv:(varS l.length).size ≤ 5:=varS_five (by omega)
  refine FnW.of_AW TryzT_ok 0 (fn:=Tryz.f38) (by kernel_rfl) rfl (by kernel_rfl) rfl rfl rfl ?_; refine AW_of h38 TryzT_ok (by kernel_rfl) ?_
  simp -dsimp
  refine ACallK_of (f36_ok [(l.length:Int)] (by simp) (by intro i hi; match i,hi with | 0,_ => exact ⟨show (0:Int) ≤ l.length by omega,show (l.length:Int) ≤ 1000000000 by omega⟩)) ?_
  simp -dsimp [varsS_one]
  refine AWh_loop (fun i:Nat => i ≤ l.length) (fun i => mkE [(3,.c (.str (varS l.length ++ catN (liveF l) i))),(10,.c (.im l.length (flat l))),(11,.c (.int .i64 l.length)),(12,.c (.int .i64 i))] []) (fun i => l.length - i) 0 (Wk_to [3,10,11,12] [] rfl rfl (by simp [catN,app_nil])) (by simp) ?_
  rintro i hi
  have hs:(catN (liveF l) i).size ≤ i * 100:=catN_size fun j hj => liveS_size (hx j (by omega))
  refine AW_of h38 TryzT_ok (by kernel_rfl) ?_
  rcases Nat.lt_or_ge i l.length with h1 | h1
  · have hr:=hx i h1
    have q1:=shortS_size hr.1; have q2:=shortS_size hr.2.1; have q3:=varS_size hr.2.2.1; have q4:=dotS_size hr.2.2.2; have q5:=flagS_size (nth l i).map
    simp -dsimp [h1,ne_of_lt h1]
    repeat (first | refine ⟨by omega,?_⟩ | refine ⟨by simp [capMax,ByteArray.size_append]; omega,?_⟩)
    refine ACallK_of (f106_ok _) ?_
    simp -dsimp [h1,ne_of_lt h1,shortsS_one,shortsS_two,varsS_one,varsS_two]
    repeat (first | refine ⟨by omega,?_⟩ | refine ⟨by simp [capMax,ByteArray.size_append]; omega,?_⟩)
    refine ACallK_of (f105_ok [(nth l i).obj,(nth l i).key] (by simp) (by intro i hi; match i,hi with | 0,_ => exact Nat.le_trans hr.1 (by decide) | 1,_ => exact Nat.le_trans hr.2.1 (by decide))) ?_
    simp -dsimp [h1,ne_of_lt h1,shortsS_one,shortsS_two,varsS_one,varsS_two]
    repeat (first | refine ⟨by omega,?_⟩ | refine ⟨by simp [capMax,ByteArray.size_append]; omega,?_⟩)
    refine ACallK_of (f36_ok [(nth l i).val] (by simp) (by intro i hi; match i,hi with | 0,_ => exact hr.2.2.1)) ?_
    simp -dsimp [h1,ne_of_lt h1,shortsS_one,shortsS_two,varsS_one,varsS_two]
    repeat (first | refine ⟨by omega,?_⟩ | refine ⟨by simp [capMax,ByteArray.size_append]; omega,?_⟩)
    refine ACallK_of (f47_ok _ hr.2.2.2.1 hr.2.2.2.2) ?_
    simp -dsimp [h1,ne_of_lt h1,shortsS_one,shortsS_two,varsS_one,varsS_two]
    repeat (first | refine ⟨by omega,?_⟩ | refine ⟨by simp [capMax,ByteArray.size_append]; omega,?_⟩)
    exact Back_of (i + 1) [3,10,11,12] [] rfl rfl (by simp [catN,liveF,liveS,app_assoc]; rw [wrap64 (by omega) (by omega)]) (by omega) (by omega)
  · obtain rfl:i = l.length:=by omega
    simp -dsimp
    rfl
@[simp] def h119:Hts:={ dr:=fun id => if id = 6 then [{ mb:=[22,26,30,34,38,42] },{},{},{ cr:=true },{ mb:=[26,30,34,38,42] },{ mb:=[22] },{ mb:=[22] },{ cr:=true },{ mb:=[30,34,38,42] },{ mb:=[22,26] },{ mb:=[22,26] },{ cr:=true },{ mb:=[34,38,42] },{ mb:=[22,26,30] },{ mb:=[22,26,30] },{ cr:=true },{ mb:=[38,42] },{ mb:=[22,26,30,34] },{ mb:=[22,26,30,34] },{ cr:=true },{ mb:=[42] },{ mb:=[22,26,30,34,38] },{ mb:=[22,26,30,34,38] },{ cr:=true },{},{}] else [] }
set_option maxHeartbeats 1000000 in
theorem f119_ok (l:List GCell) (ha:l.length ≤ 120) (hx:∀ i:Nat,i < l.length → cellR (nth l i)):FnR Tryz.prog 119 [.v (.im l.length (flat l))] (.v (.str (cellsS l))):=by
  have hv:(varS l.length).size ≤ 5:=varS_five (by omega)
  refine FnW.of_AW TryzT_ok 0 (fn:=Tryz.f119) (by kernel_rfl) rfl (by kernel_rfl) rfl rfl rfl ?_; refine AW_of h119 TryzT_ok (by kernel_rfl) ?_
  simp -dsimp
  refine ACallK_of (f126_ok _ (by omega) (by omega)) ?_
  simp -dsimp
  refine AWh_loop (fun i:Nat => i ≤ l.length) (fun i => mkE [(0,.c (.im l.length (flat l))),(3,.c (.str (varS l.length ++ catN (cellF l) i))),(4,.c (.int .i64 i))] []) (fun i => l.length - i) 0 (Wk_to [0,3,4] [] rfl rfl (by simp [catN,app_nil])) (by simp) ?_
  rintro i hi
  have hs:(catN (cellF l) i).size ≤ i * 100:=catN_size fun j hj => cellS_size (hx j (by omega))
  refine AW_of h119 TryzT_ok (by kernel_rfl) ?_
  rcases Nat.lt_or_ge i l.length with h1 | h1
  · have hr:=hx i h1
    have q1:=shortS_size hr.1; have q2:=dotS_size hr.2.1; have q3:=varS_size hr.2.2.1; have q4:=dotS_size hr.2.2.2.1; have q5:=varS_size hr.2.2.2.2; have q6:=flagS_size (nth l i).gone
    simp -dsimp [h1,ne_of_lt h1]
    repeat (first | refine ⟨by omega,?_⟩ | refine ⟨by simp [capMax,ByteArray.size_append]; omega,?_⟩)
    refine ACallK_of (f167_ok _ (Nat.le_trans hr.1 (by decide))) ?_
    simp -dsimp [h1,ne_of_lt h1,shortsS_one,shortsS_two,varsS_one,varsS_two]
    repeat (first | refine ⟨by omega,?_⟩ | refine ⟨by simp [capMax,ByteArray.size_append]; omega,?_⟩)
    refine ACallK_of (f127_ok _ hr.2.1.1 hr.2.1.2) ?_
    simp -dsimp [h1,ne_of_lt h1,shortsS_one,shortsS_two,varsS_one,varsS_two]
    repeat (first | refine ⟨by omega,?_⟩ | refine ⟨by simp [capMax,ByteArray.size_append]; omega,?_⟩)
    refine ACallK_of (f126_ok _ hr.2.2.1.1 hr.2.2.1.2) ?_
    simp -dsimp [h1,ne_of_lt h1,shortsS_one,shortsS_two,varsS_one,varsS_two]
    repeat (first | refine ⟨by omega,?_⟩ | refine ⟨by simp [capMax,ByteArray.size_append]; omega,?_⟩)
    refine ACallK_of (f127_ok _ hr.2.2.2.1.1 hr.2.2.2.1.2) ?_
    simp -dsimp [h1,ne_of_lt h1,shortsS_one,shortsS_two,varsS_one,varsS_two]
    repeat (first | refine ⟨by omega,?_⟩ | refine ⟨by simp [capMax,ByteArray.size_append]; omega,?_⟩)
    refine ACallK_of (f126_ok _ hr.2.2.2.2.1 hr.2.2.2.2.2) ?_
    simp -dsimp [h1,ne_of_lt h1,shortsS_one,shortsS_two,varsS_one,varsS_two]
    repeat (first | refine ⟨by omega,?_⟩ | refine ⟨by simp [capMax,ByteArray.size_append]; omega,?_⟩)
    refine ACallK_of (f168_ok _) ?_
    simp -dsimp [h1,ne_of_lt h1,shortsS_one,shortsS_two,varsS_one,varsS_two]
    repeat (first | refine ⟨by omega,?_⟩ | refine ⟨by simp [capMax,ByteArray.size_append]; omega,?_⟩)
    exact Back_of (i + 1) [0,3,4] [] rfl rfl (by simp [catN,cellF,cellS,app_assoc]; rw [wrap64 (by omega) (by omega)]) (by omega) (by omega)
  · obtain rfl:i = l.length:=by omega
    simp -dsimp
    rfl
@[simp] def h39:Hts:={ dr:=fun id => if id = 5 then [{ mb:=[19,20,23,27,28,32,36,37,41] },{ mb:=[27,36] },{ mb:=[27,36] },{ cr:=true,mb:=[27,36] },{ cr:=true,mb:=[27,36] },{ mb:=[19,20,27,36] },{ mb:=[19,20,27,36] },{ cr:=true,mb:=[27,36] },{ mb:=[27,28,32,36,37,41] },{ mb:=[19,20,23,36] },{ mb:=[19,20,23,36] },{ cr:=true,mb:=[19,20,23,36] },{ cr:=true,mb:=[36] },{ mb:=[32,36,37,41] },{ mb:=[19,20,23,27,28,36] },{ mb:=[19,20,23,27,28,36] },{ cr:=true,mb:=[36] },{ mb:=[36,37,41] },{ mb:=[19,20,23,27,28,32] },{ mb:=[19,20,23,27,28,32] },{ cr:=true,mb:=[19,20,23,27,28,32] },{ cr:=true },{ mb:=[41] },{ mb:=[19,20,23,27,28,32,36,37] },{ mb:=[19,20,23,27,28,32,36,37] },{ cr:=true },{},{},{}] else [] }
set_option maxHeartbeats 1000000 in
theorem f39_ok (l:List GCell) (ha:l.length ≤ 120) (hx:∀ i:Nat,i < l.length → cellR (nth l i)):FnR Tryz.prog 39 [.v (.im l.length (flat l))] (.v (.str (cellsS l))):=by
  have hv:(varS l.length).size ≤ 5:=varS_five (by omega)
  refine FnW.of_AW TryzT_ok 0 (fn:=Tryz.f39) (by kernel_rfl) rfl (by kernel_rfl) rfl rfl rfl ?_; refine AW_of h39 TryzT_ok (by kernel_rfl) ?_
  simp -dsimp
  refine ACallK_of (f36_ok [(l.length:Int)] (by simp) (by intro i hi; match i,hi with | 0,_ => exact ⟨show (0:Int) ≤ l.length by omega,show (l.length:Int) ≤ 1000000000 by omega⟩)) ?_
  simp -dsimp [varsS_one]
  refine AWh_loop (fun i:Nat => i ≤ l.length) (fun i => mkE [(3,.c (.str (varS l.length ++ catN (cellF l) i))),(10,.c (.im l.length (flat l))),(11,.c (.int .i64 l.length)),(12,.c (.int .i64 i))] []) (fun i => l.length - i) 0 (Wk_to [3,10,11,12] [] rfl rfl (by simp [catN,app_nil])) (by simp) ?_
  rintro i hi
  have hs:(catN (cellF l) i).size ≤ i * 100:=catN_size fun j hj => cellS_size (hx j (by omega))
  refine AW_of h39 TryzT_ok (by kernel_rfl) ?_
  rcases Nat.lt_or_ge i l.length with h1 | h1
  · have hr:=hx i h1
    have q1:=shortS_size hr.1; have q2:=dotS_size hr.2.1; have q3:=varS_size hr.2.2.1; have q4:=dotS_size hr.2.2.2.1; have q5:=varS_size hr.2.2.2.2; have q6:=flagS_size (nth l i).gone
    simp -dsimp [h1,ne_of_lt h1]
    repeat (first | refine ⟨by omega,?_⟩ | refine ⟨by simp [capMax,ByteArray.size_append]; omega,?_⟩)
    refine ACallK_of (f105_ok [(nth l i).obj] (by simp) (by intro i hi; match i,hi with | 0,_ => exact Nat.le_trans hr.1 (by decide))) ?_
    simp -dsimp [h1,ne_of_lt h1,shortsS_one,shortsS_two,varsS_one,varsS_two]
    repeat (first | refine ⟨by omega,?_⟩ | refine ⟨by simp [capMax,ByteArray.size_append]; omega,?_⟩)
    refine ACallK_of (f47_ok _ hr.2.1.1 hr.2.1.2) ?_
    simp -dsimp [h1,ne_of_lt h1,shortsS_one,shortsS_two,varsS_one,varsS_two]
    repeat (first | refine ⟨by omega,?_⟩ | refine ⟨by simp [capMax,ByteArray.size_append]; omega,?_⟩)
    refine ACallK_of (f36_ok [(nth l i).time] (by simp) (by intro i hi; match i,hi with | 0,_ => exact hr.2.2.1)) ?_
    simp -dsimp [h1,ne_of_lt h1,shortsS_one,shortsS_two,varsS_one,varsS_two]
    repeat (first | refine ⟨by omega,?_⟩ | refine ⟨by simp [capMax,ByteArray.size_append]; omega,?_⟩)
    refine ACallK_of (f47_ok _ hr.2.2.2.1.1 hr.2.2.2.1.2) ?_
    simp -dsimp [h1,ne_of_lt h1,shortsS_one,shortsS_two,varsS_one,varsS_two]
    repeat (first | refine ⟨by omega,?_⟩ | refine ⟨by simp [capMax,ByteArray.size_append]; omega,?_⟩)
    refine ACallK_of (f36_ok [(nth l i).val] (by simp) (by intro i hi; match i,hi with | 0,_ => exact hr.2.2.2.2)) ?_
    simp -dsimp [h1,ne_of_lt h1,shortsS_one,shortsS_two,varsS_one,varsS_two]
    repeat (first | refine ⟨by omega,?_⟩ | refine ⟨by simp [capMax,ByteArray.size_append]; omega,?_⟩)
    refine ACallK_of (f106_ok _) ?_
    simp -dsimp [h1,ne_of_lt h1,shortsS_one,shortsS_two,varsS_one,varsS_two]
    repeat (first | refine ⟨by omega,?_⟩ | refine ⟨by simp [capMax,ByteArray.size_append]; omega,?_⟩)
    exact Back_of (i + 1) [3,10,11,12] [] rfl rfl (by simp [catN,cellF,cellS,app_assoc]; rw [wrap64 (by omega) (by omega)]) (by omega) (by omega)
  · obtain rfl:i = l.length:=by omega
    simp -dsimp
    rfl
end Am
namespace Am
open Go Go.Proofs
open Cel (cells)
set_option maxRecDepth 100000
theorem nameOk_size {s:ByteArray} (h:nameOk s = true):s.size ≤ 8:=by
  simp [nameOk,spIn] at h; omega
theorem spIn_num {x lo hi:Int} (h:spIn x lo hi = true) (h1:0 ≤ lo) (h2:hi ≤ 1000000000):numOk x:=by
  simp [spIn] at h; exact ⟨by omega,by omega⟩
theorem knowOk_facts {k:List Int} (h:knowOk k = true):k.length = 3 ∧ ∀ i:Nat,i < k.length → numOk (nth k i):=by
  simp [knowOk] at h
  exact ⟨h.1,fun i hi => ⟨(h.2 i hi).1,by have:=(h.2 i hi).2; omega⟩⟩
theorem dotOk_R {d:GDot} (h:dotOk d = true):dotR d:=by
  simp [dotOk] at h
  exact ⟨spIn_num h.1 (by decide) (by decide),spIn_num h.2 (by decide) (by decide)⟩
theorem knows_R {k:List Int} {d:GDot} (h:knows k d = true):dotR d:=by
  simp [knows] at h
  exact dotOk_R h.1.2
theorem talliesOk_facts {l:List GTally} (h:talliesOk l = true):l.length ≤ 120 ∧ ∀ i:Nat,i < l.length → talR (nth l i):=by
  simp only [talliesOk,Bool.and_eq_true,decide_eq_true_eq,allB_iff,talAt,tallyOk] at h
  exact ⟨h.1,fun i hi => ⟨nameOk_size (h.2 i hi).1.1.1,spIn_num (h.2 i hi).1.1.2 (by decide) (by decide),spIn_num (h.2 i hi).1.2 (by decide) (by decide)⟩⟩
theorem livKsOk_facts {l:List GLive} {k:List Int} (h:livKsOk l k = true):l.length ≤ 120 ∧ ∀ i:Nat,i < l.length → liveR (nth l i):=by
  simp only [livKsOk,Bool.and_eq_true,decide_eq_true_eq,allB_iff,livKAt,liveOk] at h
  exact ⟨h.1,fun i hi => ⟨nameOk_size (h.2 i hi).1.2.1.1.1,nameOk_size (h.2 i hi).1.2.1.1.2,spIn_num (h.2 i hi).1.2.1.2 (by decide) (by decide),knows_R (h.2 i hi).1.1⟩⟩
theorem celKsOk_facts {l:List GCell} {k:List Int} (h:celKsOk l k = true) (hr:∀ i:Nat,i < l.length → dotR (nth l i).ref):l.length ≤ 120 ∧ ∀ i:Nat,i < l.length → cellR (nth l i):=by
  simp only [celKsOk,Bool.and_eq_true,decide_eq_true_eq,allB_iff,celKAt,cellOk'] at h
  exact ⟨h.1,fun i hi => ⟨nameOk_size (h.2 i hi).1.2.1.1,knows_R (h.2 i hi).1.1,spIn_num (h.2 i hi).1.2.1.2 (by decide) (by decide),hr i hi,spIn_num (h.2 i hi).1.2.2 (by decide) (by decide)⟩⟩
theorem refZ_R {d:GDot} (h:(d.rep == 0 && d.seq == 0 || dotOk d) = true):dotR d:=by
  simp only [Bool.or_eq_true,Bool.and_eq_true,beq_iff_eq] at h
  rcases h with h | h
  · exact ⟨by rw [h.1]; exact ⟨by decide,by decide⟩,by rw [h.2]; exact ⟨by decide,by decide⟩⟩
  · exact dotOk_R h
theorem deltaOk_facts {d:GDelta} (h:deltaOk d = true) :
    (d.base.length = 3 ∧ ∀ i:Nat,i < d.base.length → numOk (nth d.base i)) ∧ (d.know.length = 3 ∧ ∀ i:Nat,i < d.know.length → numOk (nth d.know i)) ∧
    (d.tallies.length ≤ 120 ∧ ∀ i:Nat,i < d.tallies.length → talR (nth d.tallies i)) ∧ (d.lives.length ≤ 120 ∧ ∀ i:Nat,i < d.lives.length → liveR (nth d.lives i)) ∧
    (d.dead.length ≤ 120 ∧ ∀ i:Nat,i < d.dead.length → dotR (nth d.dead i)) ∧ (d.cs.length ≤ 120 ∧ ∀ i:Nat,i < d.cs.length → cellR (nth d.cs i)):=by
  simp only [deltaOk,Bool.and_eq_true,decide_eq_true_eq] at h
  obtain ⟨⟨⟨⟨⟨⟨⟨h1,h2⟩,h3⟩,h4⟩,h5⟩,h6⟩,h7⟩,h8⟩:=h
  simp only [knowIn,Bool.and_eq_true] at h1
  rw [allB_iff] at h7 h8
  refine ⟨knowOk_facts h1.1.1,knowOk_facts h1.1.2,talliesOk_facts h2,livKsOk_facts h3,⟨h5,fun i hi => ?_⟩,celKsOk_facts h4 fun i hi => refZ_R (h8 i hi)⟩
  have:=h7 i hi
  simp only [eDead,Bool.and_eq_true] at this
  exact knows_R this.1
theorem varsS_size {xs:List Int} (hx:∀ i:Nat,i < xs.length → numOk (nth xs i)):(varsS xs).size ≤ xs.length * 5:=catN_size fun i hi => varS_five (hx i hi).2
theorem talsS_size {l:List GTally} (h:l.length ≤ 120 ∧ ∀ i:Nat,i < l.length → talR (nth l i)):(talsS l).size ≤ 12005:=by
  have h1:=catN_size (f:=talF l) (b:=100) fun i hi => talS_size (h.2 i hi)
  have hv:(varS l.length).size ≤ 5:=varS_five (by omega)
  rw [talsS,ByteArray.size_append]; omega
theorem livesS_size {l:List GLive} (h:l.length ≤ 120 ∧ ∀ i:Nat,i < l.length → liveR (nth l i)):(livesS l).size ≤ 12005:=by
  have h1:=catN_size (f:=liveF l) (b:=100) fun i hi => liveS_size (h.2 i hi)
  have hv:(varS l.length).size ≤ 5:=varS_five (by omega)
  rw [livesS,ByteArray.size_append]; omega
theorem cellsS_size {l:List GCell} (h:l.length ≤ 120 ∧ ∀ i:Nat,i < l.length → cellR (nth l i)):(cellsS l).size ≤ 12005:=by
  have h1:=catN_size (f:=cellF l) (b:=100) fun i hi => cellS_size (h.2 i hi)
  have hv:(varS l.length).size ≤ 5:=varS_five (by omega)
  rw [cellsS,ByteArray.size_append]; omega
def deltaS (d:GDelta):ByteArray:=varsS d.base ++ (varsS d.know ++ (talsS d.tallies ++ (livesS d.lives ++ (dotsS d.dead ++ cellsS d.cs))))
def deltaText (d:GDelta):ByteArray:=if deltaOk d = true then sealS (deltaS d) else ⟨#[]⟩
def deltaTextOk (d:GDelta):Bool:=deltaOk d && sealOk (deltaS d)
@[simp] def h59:Hts:={ dr:=fun id => if id = 3 then [{},{},{ cr:=true },{ mb:=[11] },{ mb:=[11] },{ cr:=true },{ mb:=[18,22,27] },{ mb:=[11,14] },{ mb:=[11,14] },{ cr:=true },{ mb:=[22,27] },{ mb:=[11,14,18] },{ mb:=[11,14,18] },{ cr:=true },{ mb:=[27] },{ mb:=[11,14,18,22] },{ mb:=[11,14,18,22] },{ mb:=[11,14,18,22] },{ cr:=true },{},{}] else [] }
set_option maxHeartbeats 2000000 in
theorem f59_ok (d:GDelta) (hd:d.Ok):FnR Tryz.prog 59 [.agg [.im d.base.length (flat d.base),.im d.know.length (flat d.know),.im d.tallies.length (flat d.tallies),.im d.lives.length (flat d.lives),.im d.dead.length (flat d.dead),.im d.cs.length (flat d.cs)]] (.tup [.v (.str (deltaText d)),.v (.bool (deltaTextOk d))]):=by
  refine FnW.of_AW TryzT_ok 0 (fn:=Tryz.f59) (by kernel_rfl) rfl (by kernel_rfl) rfl rfl rfl ?_; refine AW_of h59 TryzT_ok (by kernel_rfl) ?_
  simp -dsimp
  refine ACallK_of (f19_ok _ hd) ?_
  rw [deltaOkS_eq]
  cases hk:deltaOk d
  · simp -dsimp
    simp [deltaText,deltaTextOk,hk]
  · simp -dsimp
    obtain ⟨⟨b0,b1⟩,⟨k0,k1⟩,t,l,e,c⟩:=deltaOk_facts hk
    have z1:=varsS_size b1
    have z2:=varsS_size k1
    have z3:=talsS_size t
    have z4:=livesS_size l
    have z6:=cellsS_size c
    have zv:(varS d.dead.length).size ≤ 5:=varS_five (by omega)
    have ze:=catN_size (f:=dotF d.dead) (b:=100) fun i hi => Nat.le_trans (dotS_size (e.2 i hi)) (by decide)
    refine ACallK_of (f116_ok _ (by omega) b1) ?_
    simp -dsimp
    repeat (first | refine ⟨by omega,?_⟩ | refine ⟨by simp [capMax,ByteArray.size_append]; omega,?_⟩)
    refine ACallK_of (f116_ok _ (by omega) k1) ?_
    simp -dsimp
    repeat (first | refine ⟨by omega,?_⟩ | refine ⟨by simp [capMax,ByteArray.size_append]; omega,?_⟩)
    refine ACallK_of (f117_ok _ t.1 t.2) ?_
    simp -dsimp
    repeat (first | refine ⟨by omega,?_⟩ | refine ⟨by simp [capMax,ByteArray.size_append]; omega,?_⟩)
    refine ACallK_of (f118_ok _ l.1 l.2) ?_
    simp -dsimp
    repeat (first | refine ⟨by omega,?_⟩ | refine ⟨by simp [capMax,ByteArray.size_append]; omega,?_⟩)
    refine ACallK_of (f126_ok _ (by omega) (by omega)) ?_
    simp -dsimp
    repeat (first | refine ⟨by omega,?_⟩ | refine ⟨by simp [capMax,ByteArray.size_append]; omega,?_⟩)
    refine AWh_loop (fun i:Nat => i ≤ d.dead.length) (fun i => mkE [(1,.box 64 0),(4,.c (.str (varsS d.base ++ varsS d.know ++ talsS d.tallies ++ livesS d.lives ++ varS d.dead.length ++ catN (dotF d.dead) i))),(5,.c (.int .i64 i))] [(64,.box [.c (.im d.base.length (flat d.base)),.c (.im d.know.length (flat d.know)),.c (.im d.tallies.length (flat d.tallies)),.c (.im d.lives.length (flat d.lives)),.c (.im d.dead.length (flat d.dead)),.c (.im d.cs.length (flat d.cs))])]) (fun i => d.dead.length - i) 0 (Wk_to [1,4,5] [(64,64)] rfl rfl (by simp [catN,app_nil])) (by simp) ?_
    rintro i hi
    have hs:(catN (dotF d.dead) i).size ≤ i * 100:=catN_size fun j hj => Nat.le_trans (dotS_size (e.2 j (by omega))) (by decide)
    refine AW_of h59 TryzT_ok (by kernel_rfl) ?_
    rcases Nat.lt_or_ge i d.dead.length with h1 | h1
    · have hr:=e.2 i h1
      have q1:=dotS_size hr
      simp -dsimp [h1,ne_of_lt h1]
      repeat (first | refine ⟨by omega,?_⟩ | refine ⟨by simp [capMax,ByteArray.size_append]; omega,?_⟩)
      refine ACallK_of (f127_ok _ hr.1 hr.2) ?_
      simp -dsimp [h1,ne_of_lt h1]
      repeat (first | refine ⟨by omega,?_⟩ | refine ⟨by simp [capMax,ByteArray.size_append]; omega,?_⟩)
      exact Back_of (i + 1) [1,4,5] [(64,64)] rfl rfl (by simp [catN,dotF,app_assoc]; rw [wrap64 (by omega) (by omega)]) (by omega) (by omega)
    · obtain rfl:i = d.dead.length:=by omega
      simp -dsimp
      refine ACallK_of (f119_ok _ c.1 c.2) ?_
      simp -dsimp
      repeat (first | refine ⟨by omega,?_⟩ | refine ⟨by simp [capMax,ByteArray.size_append]; omega,?_⟩)
      refine ACallK_of (f54_ok _ (by simp [ByteArray.size_append]; omega)) ?_
      simp -dsimp
      simp [deltaText,deltaTextOk,hk,deltaS,dotsS,app_assoc]
@[simp] def h10:Hts:={ dr:=fun id => if id = 9 then [{},{},{ cr:=true },{ mb:=[29] },{ mb:=[29] },{ cr:=true },{ mb:=[36,40,46] },{ mb:=[29,32] },{ mb:=[29,32] },{ cr:=true },{ mb:=[40,46] },{ mb:=[29,32,36] },{ mb:=[29,32,36] },{ cr:=true },{ mb:=[46] },{ mb:=[29,32,36,40,46] },{ mb:=[46] },{ mb:=[29,32,36,40] },{ mb:=[29,32,36,40] },{ cr:=true },{},{ cr:=true },{},{},{},{}] else [] }
set_option maxHeartbeats 2000000 in
theorem f10_ok (d:GDelta) (hd:d.Ok):FnR Tryz.prog 10 [.agg [.im d.base.length (flat d.base),.im d.know.length (flat d.know),.im d.tallies.length (flat d.tallies),.im d.lives.length (flat d.lives),.im d.dead.length (flat d.dead),.im d.cs.length (flat d.cs)]] (.tup [.v (.str (deltaText d)),.v (.bool (deltaTextOk d))]):=by
  refine FnW.of_AW TryzT_ok 0 (fn:=Tryz.f10) (by kernel_rfl) rfl (by kernel_rfl) rfl rfl rfl ?_; refine AW_of h10 TryzT_ok (by kernel_rfl) ?_
  simp -dsimp
  refine ACallK_of (f46_ok _ hd) ?_
  cases hk:deltaOk d
  · simp -dsimp
    simp [deltaText,deltaTextOk,hk]
  · simp -dsimp
    obtain ⟨⟨b0,b1⟩,⟨k0,k1⟩,t,l,e,c⟩:=deltaOk_facts hk
    have z1:=varsS_size b1
    have z2:=varsS_size k1
    have z3:=talsS_size t
    have z4:=livesS_size l
    have z6:=cellsS_size c
    have zv:(varS d.dead.length).size ≤ 5:=varS_five (by omega)
    have ze:=catN_size (f:=dotF d.dead) (b:=100) fun i hi => Nat.le_trans (dotS_size (e.2 i hi)) (by decide)
    refine ACallK_of (f36_ok [(d.dead.length:Int)] (by simp) (by intro i hi; match i,hi with | 0,_ => exact ⟨show (0:Int) ≤ d.dead.length by omega,show (d.dead.length:Int) ≤ 1000000000 by omega⟩)) ?_
    simp -dsimp [varsS_one]
    refine AWh_loop (fun i:Nat => i ≤ d.dead.length) (fun i => mkE [(1,.box 64 0),(4,.c (.str (varS d.dead.length ++ catN (dotF d.dead) i))),(16,.c (.im d.dead.length (flat d.dead))),(17,.c (.int .i64 d.dead.length)),(18,.c (.int .i64 i))] [(64,.box [.c (.im d.base.length (flat d.base)),.c (.im d.know.length (flat d.know)),.c (.im d.tallies.length (flat d.tallies)),.c (.im d.lives.length (flat d.lives)),.c (.im d.dead.length (flat d.dead)),.c (.im d.cs.length (flat d.cs))])]) (fun i => d.dead.length - i) 0 (Wk_to [1,4,16,17,18] [(64,64)] rfl rfl (by simp [catN,app_nil])) (by simp) ?_
    rintro i hi
    have hs:(catN (dotF d.dead) i).size ≤ i * 100:=catN_size fun j hj => Nat.le_trans (dotS_size (e.2 j (by omega))) (by decide)
    refine AW_of h10 TryzT_ok (by kernel_rfl) ?_
    rcases Nat.lt_or_ge i d.dead.length with h1 | h1
    · have hr:=e.2 i h1
      have q1:=dotS_size hr
      simp -dsimp [h1,ne_of_lt h1]
      repeat (first | refine ⟨by omega,?_⟩ | refine ⟨by simp [capMax,ByteArray.size_append]; omega,?_⟩)
      refine ACallK_of (f47_ok _ hr.1 hr.2) ?_
      simp -dsimp [h1,ne_of_lt h1]
      repeat (first | refine ⟨by omega,?_⟩ | refine ⟨by simp [capMax,ByteArray.size_append]; omega,?_⟩)
      exact Back_of (i + 1) [1,4,16,17,18] [(64,64)] rfl rfl (by simp [catN,dotF,app_assoc]; rw [wrap64 (by omega) (by omega)]) (by omega) (by omega)
    · obtain rfl:i = d.dead.length:=by omega
      simp -dsimp
      refine ACallK_of (f36_ok _ (by omega) b1) ?_
      simp -dsimp
      repeat (first | refine ⟨by omega,?_⟩ | refine ⟨by simp [capMax,ByteArray.size_append]; omega,?_⟩)
      refine ACallK_of (f36_ok _ (by omega) k1) ?_
      simp -dsimp
      repeat (first | refine ⟨by omega,?_⟩ | refine ⟨by simp [capMax,ByteArray.size_append]; omega,?_⟩)
      refine ACallK_of (f37_ok _ t.1 t.2) ?_
      simp -dsimp
      repeat (first | refine ⟨by omega,?_⟩ | refine ⟨by simp [capMax,ByteArray.size_append]; omega,?_⟩)
      refine ACallK_of (f38_ok _ l.1 l.2) ?_
      simp -dsimp
      repeat (first | refine ⟨by omega,?_⟩ | refine ⟨by simp [capMax,ByteArray.size_append]; omega,?_⟩)
      refine ACallK_of (f39_ok _ c.1 c.2) ?_
      simp -dsimp
      repeat (first | refine ⟨by omega,?_⟩ | refine ⟨by simp [capMax,ByteArray.size_append]; omega,?_⟩)
      refine ACallK_of (f35_ok _ (by simp [ByteArray.size_append]; omega)) ?_
      simp -dsimp
      simp [deltaText,deltaTextOk,hk,deltaS,dotsS,app_assoc]
end Am
namespace Am
open Go Go.Proofs
set_option maxRecDepth 100000
structure Seg (s s':GScan) (x:ByteArray):Prop where
  b:s.bad = false
  t:s'.t = s.t
  l:s.pos ≤ s'.pos
  h:s'.pos ≤ s.t.size
  e:s.t.extract s.pos.toNat s'.pos.toNat = x
structure Fine (s:GScan):Prop where
  l:0 ≤ s.pos
  h:s.pos ≤ s.t.size
theorem Seg.trans {s s' s'':GScan} {x y:ByteArray} (f:Fine s) (a:Seg s s' x) (b:Seg s' s'' y):Seg s s'' (x ++ y):=by
  obtain ⟨a0,a1,a2,a3,a4⟩:=a
  obtain ⟨b0,b1,b2,b3,b4⟩:=b
  have:=f.l
  refine ⟨a0,by rw [b1,a1],by omega,by rw [a1] at b3; exact b3,?_⟩
  rw [← a4,← b4,a1,ByteArray.extract_append_extract]
  congr 1 <;> omega
theorem Seg.nil {s:GScan} (f:Fine s) (h:s.bad = false):Seg s s ⟨#[]⟩:=⟨h,rfl,Int.le_refl _,f.h,by rw [extract_str]; simp [str]⟩
structure Rdr {α:Type} (r:GScan → α × GScan) (w:α → ByteArray):Prop where
  f:∀ s,Fine s → Fine (r s).2
  g:∀ s,Fine s → (r s).2.bad = false → Seg s (r s).2 (w (r s).1)
theorem rvGo_canon:∀ (f:Nat) (l ds:List UInt8) (n c:Nat),(∀ d,d ∈ ds → 127 < d.toNat) → rvGo l ds f = some (n,c) → ds ++ l.take (c - ds.length) = varB n
  | 0,_,_,_,_,_,h => by simp [rvGo] at h
  | f + 1,[],_,_,_,_,h => by simp [rvGo] at h
  | f + 1,x :: r,ds,n,c,hd,h => by
    simp only [rvGo] at h
    split at h
    · rename_i hx
      have ih:=rvGo_canon f r (ds ++ [x]) n c (fun d hd' => by
        rcases List.mem_append.1 hd' with h' | h'
        · exact hd d h'
        · simp only [List.mem_singleton] at h'; subst h'; exact hx) h
      have:=rvGo_spec f r (ds ++ [x]) n c h
      simp only [List.length_append,List.length_singleton] at ih this
      rw [← ih]
      have e:c - ds.length = (c - (ds.length + 1)) + 1:=by omega
      rw [e,List.take_succ_cons]
      simp
    · rename_i hx
      split at h
      · cases h
      · rename_i hy
        simp only [Option.some.injEq,Prod.mk.injEq] at h
        obtain ⟨rfl,rfl⟩:=h
        rw [varB_dec (by omega) ds hd (by
          by_cases e:ds = []
          · exact Or.inl e
          · exact Or.inr fun e' => hy (Or.inl ⟨e,e'⟩))]
        have e:ds.length + 1 - ds.length = 1:=by omega
        rw [e]; rfl
theorem rd_canon {t:ByteArray} {p n a:Int} (h:rd t p = some (n,a)):t.extract p.toNat a.toNat = varS n:=by
  have sp:=rd_spec h
  unfold rd at h
  rw [if_pos ⟨by omega,by omega⟩] at h
  simp only [Option.map_eq_some_iff] at h
  obtain ⟨⟨m,c⟩,h1,h2⟩:=h
  simp only [Prod.mk.injEq] at h2
  obtain ⟨rfl,rfl⟩:=h2
  have:=rvGo_canon 5 _ [] m c (by simp) h1
  rw [extract_str,varS]
  have e:(p + (c:Int)).toNat - p.toNat = c:=by omega
  rw [e]
  simp at this
  rw [this]; rfl
theorem numM_rdr:Rdr numM varS where
  f:=by
    intro s f
    refine ⟨numM_pos f.l,?_⟩
    rw [numM_t]
    unfold numM
    split
    · exact f.h
    · cases g:rd s.t s.pos with
      | none => exact f.h
      | some x => obtain ⟨n,a⟩:=x; have:=rd_spec g; simp only; omega
  g:=by
    intro s f h
    unfold numM at h ⊢
    split at h
    · rename_i hb; simp only at h; rw [h] at hb; cases hb
    · rename_i hb
      have hb':s.bad = false:=by simpa using hb
      cases g:rd s.t s.pos with
      | none => rw [g] at h; cases h
      | some x =>
        obtain ⟨n,a⟩:=x
        have sp:=rd_spec g
        rw [if_neg hb]
        exact ⟨hb',rfl,by simp only; omega,by simp only; omega,rd_canon g⟩
theorem shM_rdr:Rdr shM shortS where
  f:=by
    intro s f
    refine ⟨shM_pos f.l,?_⟩
    rw [shM_t]
    unfold shM
    split
    · exact f.h
    · cases g:rs s.t s.pos with
      | none => exact f.h
      | some x =>
        obtain ⟨y,a⟩:=x
        obtain ⟨n,b,h1,_,h3,_,rfl⟩:=rs_spec g
        simp only; omega
  g:=by
    intro s f h
    unfold shM at h ⊢
    split at h
    · rename_i hb; simp only at h; rw [h] at hb; cases hb
    · rename_i hb
      have hb':s.bad = false:=by simpa using hb
      cases g:rs s.t s.pos with
      | none => rw [g] at h; cases h
      | some x =>
        obtain ⟨y,a⟩:=x
        obtain ⟨n,b,h1,h2,h3,rfl,rfl⟩:=rs_spec g
        have sp:=rd_spec h1
        rw [if_neg hb]
        refine ⟨hb',rfl,by simp only; omega,by simp only; omega,?_⟩
        simp only
        have e:((s.t.extract b.toNat (b + n).toNat).size:Int) = n:=by
          rw [ByteArray.size_extract]; omega
        rw [shortS,e,← rd_canon h1,ByteArray.extract_append_extract]
        congr 1 <;> omega
theorem Rdr.two {α β:Type} {r:GScan → α × GScan} {q:GScan → β × GScan} {w:α → ByteArray} {v:β → ByteArray} (a:Rdr r w) (b:Rdr q v) :
    Rdr (fun s => (((r s).1,(q (r s).2).1),(q (r s).2).2)) (fun x => w x.1 ++ v x.2) where
  f:=fun s f => b.f _ (a.f s f)
  g:=fun s f h => by
    have h2:=b.g _ (a.f s f) h
    exact (a.g s f h2.b).trans f h2
theorem Rdr.to {α β:Type} {r:GScan → α × GScan} {q:GScan → β × GScan} {w:α → ByteArray} {v:β → ByteArray} (a:Rdr r w) (k:α → β) (h:∀ s,q s = (k (r s).1,(r s).2)) (hw:∀ x,v (k x) = w x):Rdr q v where
  f:=fun s f => by rw [h]; exact a.f s f
  g:=fun s f hb => by
    rw [h] at hb ⊢
    simp only at hb ⊢
    rw [hw]; exact a.g s f hb
theorem dotM_rdr:Rdr dotM dotS:=(numM_rdr.two numM_rdr).to (fun x => ⟨x.1,x.2⟩) (fun s => rfl) (fun x => rfl)
theorem flag_num (n:Int) (h0:0 ≤ n) (h1:¬ 1 < n):flagS (n == 1) = varS n:=by
  have:n = 0 ∨ n = 1:=by omega
  rcases this with rfl | rfl
  · rw [varS,flagS,varB_small (by decide)]; rfl
  · rw [varS,flagS,varB_small (by decide)]; rfl
theorem flagM_rdr:Rdr flagM flagS where
  f:=by
    intro s f
    have:=numM_rdr.f s f
    unfold flagM
    simp only
    split
    · exact ⟨this.l,this.h⟩
    · exact this
  g:=by
    intro s f h
    unfold flagM at h ⊢
    simp only at h ⊢
    split at h
    · cases h
    · rename_i hn
      rw [if_neg hn,flag_num _ (numM_nn s) hn]
      exact numM_rdr.g s f h
theorem u8_small {n:Nat} (h:n ≤ 127):(u8 (n:Int)).toNat = n:=by
  unfold u8
  rw [UInt8.toNat_ofNat']
  omega
theorem bool_flag {s:GScan} (f:Fine s) (h:(flagM s).2.bad = false ∨ (boolS s).2.bad = false):flagM s = boolS s:=by
  obtain ⟨t,p,b⟩:=s
  have fl:=f.l
  have fh:=f.h
  simp only at fl fh
  cases b
  · by_cases hp:p < t.size
    · obtain ⟨k,rfl⟩:=Int.eq_ofNat_of_zero_le fl
      obtain ⟨c,hc1,hc2⟩:=bt_at (t:=t) (k:=k) (by omega)
      by_cases hc:c.toNat ≤ 1
      · have g:rd t k = some ((c.toNat:Int),(k:Int) + 1):=by
          unfold rd
          rw [if_pos ⟨fl,fh⟩,Int.toNat_natCast,hc1,rvGo,if_neg (by omega)]
          have e:decL ([] ++ [c]) = c.toNat:=by simp [decL]; omega
          rw [e,if_neg (by simp; omega)]
          simp
        have e1:numM ⟨t,k,false⟩ = (((c.toNat:Nat):Int),⟨t,(k:Int) + 1,false⟩):=by
          simp [numM,g]
        have e2:boolS ⟨t,k,false⟩ = ((c.toNat:Int) == 1,⟨t,(k:Int) + 1,false⟩):=by
          simp only [boolS]
          rw [if_neg (by rw [hc2]; simp; omega),hc2]
        rw [e2,flagM,e1]
        simp only
        rw [if_neg (by omega)]
      · exfalso
        rcases h with h | h
        · have sg:=flagM_rdr.g _ f h
          have hn:¬ 1 < (numM ⟨t,k,false⟩).1:=by
            intro hn
            simp only [flagM,if_pos hn,setBad] at h
            cases h
          have e:flagM ⟨t,k,false⟩ = ((numM ⟨t,k,false⟩).1 == 1,(numM ⟨t,k,false⟩).2):=by simp only [flagM,if_neg hn]
          rw [e] at h
          have sn:=numM_rdr.g _ f h
          have h0:=numM_nn ⟨t,k,false⟩
          have e2:=sn.e
          obtain ⟨m,hm⟩:=Int.eq_ofNat_of_zero_le h0
          rw [hm] at hn e2
          rw [extract_str,varS,Int.toNat_natCast,varB_small (by omega),str_inj] at e2
          simp only [Int.toNat_natCast,hc1] at e2
          have h3:∀ z,(c :: List.drop (k + 1) t.data.toList).take z = [u8 (m:Int)] → c = u8 (m:Int):=by
            intro z hz
            cases z with
            | zero => simp at hz
            | succ z => rw [List.take_succ_cons] at hz; exact (List.cons.inj hz).1
          have h4:=h3 _ e2
          have h5:=u8_small (n:=m) (by omega)
          rw [← h4] at h5
          omega
        · simp only [boolS] at h
          rw [if_pos (by rw [hc2]; simp; omega)] at h
          cases h
    · exfalso
      have hpp:p = t.size:=by omega
      subst hpp
      rcases h with h | h
      · have hn:¬ 1 < (numM ⟨t,t.size,false⟩).1:=by
          intro hn
          simp only [flagM,if_pos hn,setBad] at h
          cases h
        have e:flagM ⟨t,t.size,false⟩ = ((numM ⟨t,t.size,false⟩).1 == 1,(numM ⟨t,t.size,false⟩).2):=by simp only [flagM,if_neg hn]
        rw [e] at h
        have g:rd t t.size = none:=by
          unfold rd
          rw [if_pos ⟨fl,fh⟩,Int.toNat_natCast]
          have:t.data.toList.drop t.size = []:=by
            apply List.drop_eq_nil_of_le
            exact Nat.le_refl _
          rw [this]; rfl
        simp [numM,g] at h
      · simp [boolS,setBad] at h
  · exfalso
    rcases h with h | h
    · simp [flagM,numM,setBad] at h
    · simp [boolS,setBad] at h
theorem boolS_fine (s:GScan) (f:Fine s):Fine (boolS s).2:=by
  refine ⟨boolS_pos f.l,?_⟩
  rw [boolS_t]
  unfold boolS
  split
  · exact f.h
  · rename_i h; simp only; simp only [not_or] at h; omega
theorem nth_left {α:Type} [Cel α] {l:List α} {x:α} {i:Nat} (h:i < l.length):nth (l ++ [x]) i = nth l i:=by
  simp [nth,List.getD,List.getElem?_append_left h]
theorem nth_last {α:Type} [Cel α] {l:List α} {x:α}:nth (l ++ [x]) l.length = x:=by
  simp [nth,List.getD]
theorem catN_eq {f g:Nat → ByteArray}:∀ {n:Nat},(∀ i:Nat,i < n → f i = g i) → catN f n = catN g n
  | 0,_ => rfl
  | n + 1,h => by rw [catN,catN,catN_eq fun i hi => h i (by omega),h n (by omega)]
section
variable {α:Type} [Cel α] {r q:GScan → α × GScan} {w:α → ByteArray}
theorem lsM_fine (hr:Rdr r w) {s:GScan} (f:Fine s):∀ n,Fine (lsM r s n).2
  | 0 => f
  | n + 1 => hr.f _ (lsM_fine hr f n)
theorem lsM_seg (hr:Rdr r w) {s:GScan} (f:Fine s):∀ n,(lsM r s n).2.bad = false → Seg s (lsM r s n).2 (catN (fun i => w (nth (lsM r s n).1 i)) n)
  | 0,h => Seg.nil f h
  | n + 1,h => by
    have h1:=hr.g _ (lsM_fine hr f n) h
    have h2:=(lsM_seg hr f n h1.b).trans f h1
    rw [catN]
    have hl:=lsM_len (r:=r) s n
    have e1:w (nth (lsM r s (n + 1)).1 n) = w (r (lsM r s n).2).1:=by
      have:=nth_last (l:=(lsM r s n).1) (x:=(r (lsM r s n).2).1)
      rw [hl] at this
      simp only [lsM,this]
    have e2:catN (fun i => w (nth (lsM r s (n + 1)).1 i)) n = catN (fun i => w (nth (lsM r s n).1 i)) n:=catN_eq fun i hi => by
      simp only [lsM]; rw [nth_left (by omega)]
    rw [e1,e2]
    exact h2
def liM (r:GScan → α × GScan) (s:GScan):List α × GScan:=lsM r (cntM s).2 (cntM s).1.toNat
def liS (r:GScan → α × GScan) (s:GScan):List α × GScan:=lsS r (cntM s).2 (cntM s).1.toNat
def lisS (w:α → ByteArray) (l:List α):ByteArray:=varS l.length ++ catN (fun i => w (nth l i)) l.length
theorem cntM_fine {s:GScan} (f:Fine s):Fine (cntM s).2:=by
  have:=numM_rdr.f s f
  unfold cntM
  split
  · exact ⟨this.l,this.h⟩
  · exact this
theorem cntM_seg {s:GScan} (f:Fine s) (h:(cntM s).2.bad = false):Seg s (cntM s).2 (varS (cntM s).1):=by
  unfold cntM at h ⊢
  split at h
  · cases h
  · rename_i hn
    rw [if_neg hn]
    exact numM_rdr.g s f h
theorem liM_rdr (hr:Rdr r w):Rdr (liM r) (lisS w) where
  f:=fun s f => lsM_fine hr (cntM_fine f) _
  g:=fun s f h => by
    have h1:=lsM_seg hr (cntM_fine f) _ h
    have h2:=(cntM_seg f h1.b).trans f h1
    have hl:=lsM_len (r:=r) (cntM s).2 (cntM s).1.toNat
    obtain ⟨N,hN,hN2⟩:=cntM_N s
    unfold lisS liM
    rw [hl]
    rw [show (((cntM s).1.toNat:Nat):Int) = (cntM s).1 by omega]
    exact h2
theorem lsM_lsS (hr:Rdr r w) (he:∀ s,Fine s → (r s).2.bad = false ∨ (q s).2.bad = false → r s = q s) {s:GScan} (f:Fine s):∀ n,(lsM r s n).2.bad = false ∨ (lsS q s n).2.bad = false → lsM r s n = lsS q s n
  | 0,_ => rfl
  | n + 1,h => by
    rcases h with h | h
    · have h1:=hr.g _ (lsM_fine hr f n) h
      have ih:=lsM_lsS hr he f n (Or.inl h1.b)
      rw [lsS,← ih,h1.b,lsM,he _ (lsM_fine hr f n) (Or.inl h)]
      simp
    · rw [lsS] at h
      cases hb:(lsS q s n).2.bad
      · have ih:=lsM_lsS hr he f n (Or.inr hb)
        rw [hb] at h
        simp only [Bool.false_eq_true,if_false] at h
        rw [lsS,hb,lsM,ih]
        have e:=he _ (lsM_fine hr f n) (Or.inr (by rw [ih]; exact h))
        rw [ih] at e
        simp [e]
      · rw [hb] at h
        simp only [if_true] at h
        rw [h] at hb; cases hb
theorem liM_liS (hr:Rdr r w) (he:∀ s,Fine s → (r s).2.bad = false ∨ (q s).2.bad = false → r s = q s) (s:GScan) (f:Fine s) (h:(liM r s).2.bad = false ∨ (liS q s).2.bad = false):liM r s = liS q s :=
  lsM_lsS hr he (cntM_fine f) _ h
theorem lsM_all {p:α → Prop} (hp:∀ s,p (r s).1) (s:GScan):∀ n,∀ x,x ∈ (lsM r s n).1 → p x
  | 0,x,h => by cases h
  | n + 1,x,h => by
    simp only [lsM] at h
    rcases List.mem_append.1 h with h | h
    · exact lsM_all hp s n x h
    · simp only [List.mem_singleton] at h; subst h; exact hp _
theorem lsS_all {p:α → Prop} (hp:∀ s,p (r s).1) (s:GScan):∀ n,∀ x,x ∈ (lsS r s n).1 → p x
  | 0,x,h => by cases h
  | n + 1,x,h => by
    simp only [lsS] at h
    split at h
    · exact lsS_all hp s n x h
    · rcases List.mem_append.1 h with h | h
      · exact lsS_all hp s n x h
      · simp only [List.mem_singleton] at h; subst h; exact hp _
theorem lsS_len (s:GScan):∀ n,(lsS r s n).1.length ≤ n
  | 0 => Nat.le_refl _
  | n + 1 => by
    simp only [lsS]
    have:=lsS_len s n
    split
    · omega
    · simp; omega
theorem liM_len (s:GScan):(liM r s).1.length ≤ 120:=by
  obtain ⟨N,hN,hN2⟩:=cntM_N s
  have:=lsM_len (r:=r) (cntM s).2 (cntM s).1.toNat
  unfold liM
  omega
theorem liS_len (s:GScan):(liS r s).1.length ≤ 120:=by
  obtain ⟨N,hN,hN2⟩:=cntM_N s
  have:=lsS_len (r:=r) (cntM s).2 (cntM s).1.toNat
  unfold liS
  omega
end
theorem talM_rdr:Rdr talM talS:=(shM_rdr.two (numM_rdr.two numM_rdr)).to (fun x => ⟨x.1,x.2.1,x.2.2⟩) (fun s => rfl) (fun x => rfl)
theorem liveM_rdr {fl:GScan → Bool × GScan} (hf:Rdr fl flagS):Rdr (liveM fl) liveS:=(hf.two ((shM_rdr.two shM_rdr).two (numM_rdr.two dotM_rdr))).to (fun x => ⟨x.1,x.2.1.1,x.2.1.2,x.2.2.1,x.2.2.2⟩) (fun s => rfl) (fun x => rfl)
theorem cellM_rdr {fl:GScan → Bool × GScan} (hf:Rdr fl flagS):Rdr (cellM fl) cellS:=(shM_rdr.two (dotM_rdr.two (numM_rdr.two (dotM_rdr.two (numM_rdr.two hf))))).to (fun x => ⟨x.1,x.2.1,x.2.2.1,x.2.2.2.1,x.2.2.2.2.1,x.2.2.2.2.2⟩) (fun s => rfl) (fun x => rfl)
theorem live_eq (s:GScan) (f:Fine s) (h:(liveM flagM s).2.bad = false ∨ (liveM boolS s).2.bad = false):liveM flagM s = liveM boolS s:=by
  have e:flagM s = boolS s:=by
    apply bool_flag f
    rcases h with h | h
    · have f1:=flagM_rdr.f s f
      have f2:=shM_rdr.f _ f1
      have f3:=shM_rdr.f _ f2
      have f4:=numM_rdr.f _ f3
      exact Or.inl (shM_rdr.g _ f1 (shM_rdr.g _ f2 (numM_rdr.g _ f3 (dotM_rdr.g _ f4 h).b).b).b).b
    · have f1:=boolS_fine s f
      have f2:=shM_rdr.f _ f1
      have f3:=shM_rdr.f _ f2
      have f4:=numM_rdr.f _ f3
      exact Or.inr (shM_rdr.g _ f1 (shM_rdr.g _ f2 (numM_rdr.g _ f3 (dotM_rdr.g _ f4 h).b).b).b).b
  unfold liveM
  rw [e]
theorem cell_eq (s:GScan) (f:Fine s) (h:(cellM flagM s).2.bad = false ∨ (cellM boolS s).2.bad = false):cellM flagM s = cellM boolS s:=by
  have f1:=shM_rdr.f s f
  have f2:=dotM_rdr.f _ f1
  have f3:=numM_rdr.f _ f2
  have f4:=dotM_rdr.f _ f3
  have f5:=numM_rdr.f _ f4
  have e:=bool_flag f5 h
  unfold cellM
  rw [e]
theorem kn_ls (s:GScan):∀ i,kn s i = lsM numM s i
  | 0 => rfl
  | i + 1 => by rw [kn,kn_ls s i,lsM]
theorem knowM_rdr:Rdr knowM varsS where
  f:=fun s f => by unfold knowM; rw [kn_ls]; exact lsM_fine numM_rdr f 3
  g:=fun s f h => by
    unfold knowM at h ⊢
    rw [kn_ls] at h ⊢
    have:=lsM_seg numM_rdr f 3 h
    unfold varsS
    rw [lsM_len]
    exact this
theorem lsS_bad {α:Type} {r:GScan → α × GScan} {s:GScan} (hb:s.bad = true):∀ n,lsS r s n = ([],s)
  | 0 => rfl
  | n + 1 => by rw [lsS,lsS_bad hb n]; simp [hb]
theorem liS_stuck {α:Type} [Cel α] {r:GScan → α × GScan} {s:GScan} (f:Fine s) (h:(liS r s).2.bad = false):s.bad = false:=by
  cases hb:(cntM s).2.bad
  · exact (cntM_seg f hb).b
  · unfold liS at h
    rw [lsS_bad hb] at h
    simp only at h
    rw [h] at hb; cases hb
def unOk (t:ByteArray):Bool:=decide (4 ≤ t.size) && (decide (t.size ≤ 20004) && decide (t.extract (t.size - 4) t.size = fourS (sumOf (t.extract 0 (t.size - 4)))))
def unS (t:ByteArray):ByteArray:=if unOk t = true then t.extract 0 (t.size - 4) else ⟨#[]⟩
def scan0 (t:ByteArray):GScan:=⟨unS t,0,!unOk t⟩
theorem scan0_fine (t:ByteArray):Fine (scan0 t):=⟨by simp [scan0],by simp [scan0]⟩
theorem unS_size (t:ByteArray):(unS t).size ≤ 20000:=by
  unfold unS
  split
  · rename_i h
    simp only [unOk,Bool.and_eq_true,decide_eq_true_eq] at h
    rw [ByteArray.size_extract]; omega
  · exact Nat.zero_le _
theorem ba_all (t:ByteArray):t.extract 0 t.size = t:=by
  apply ByteArray.ext
  rw [ByteArray.data_extract]
  exact Array.extract_size
theorem unS_seal {t:ByteArray} (h:unOk t = true):sealS (unS t) = t ∧ sealOk (unS t) = true:=by
  have hs:=unS_size t
  refine ⟨?_,by simp [sealOk,hs]⟩
  rw [sealS,if_pos hs,unS,if_pos h]
  simp only [unOk,Bool.and_eq_true,decide_eq_true_eq] at h
  rw [← h.2.2,ByteArray.extract_append_extract]
  rw [Nat.min_eq_left (by omega),Nat.max_eq_right (by omega)]
  exact ba_all t
theorem seal_unS {x t:ByteArray} (h:sealOk x = true) (e:sealS x = t) (ht:unOk t = true):unS t = x:=by
  simp only [sealOk,decide_eq_true_eq] at h
  rw [sealS,if_pos h] at e
  subst e
  rw [unS,if_pos ht]
  have e:(x ++ fourS (sumOf x)).size - 4 = x.size:=by rw [ByteArray.size_append,fourS_size]; omega
  rw [e,ByteArray.extract_append_size_left]
  exact ba_all x
section
variable {α:Type} {rM rS:GScan → α × GScan} {w:α → ByteArray} {ok:α → Bool}
theorem whole_eq (hr:Rdr rM w) (he:∀ s,Fine s → (rM s).2.bad = false ∨ (rS s).2.bad = false → rM s = rS s) (t:ByteArray) :
    ((rM (scan0 t)).2.bad = false ∧ (rM (scan0 t)).2.pos = (unS t).size ∧ ok (rM (scan0 t)).1 = true) ↔
    ((rS (scan0 t)).2.bad = false ∧ (ok (rS (scan0 t)).1 = true ∧ sealOk (w (rS (scan0 t)).1) = true) ∧ sealS (w (rS (scan0 t)).1) = t):=by
  have f:=scan0_fine t
  constructor
  · rintro ⟨h1,h2,h3⟩
    have e:=he _ f (Or.inl h1)
    have sg:=hr.g _ f h1
    have hu:unOk t = true:=by have:=sg.b; simpa [scan0] using this
    have e2:=sg.e
    rw [h2] at e2
    have e3:(scan0 t).t.extract (scan0 t).pos.toNat ((unS t).size:Int).toNat = unS t:=by
      simp only [scan0,Int.toNat_natCast,Int.toNat_zero]
      exact ba_all _
    rw [e3] at e2
    rw [← e]
    have:=unS_seal hu
    rw [← e2]
    exact ⟨h1,⟨h3,this.2⟩,this.1⟩
  · rintro ⟨h1,⟨h2,h3⟩,h4⟩
    have e:=he _ f (Or.inr h1)
    rw [← e] at h1 h2 h3 h4
    have sg:=hr.g _ f h1
    have hu:unOk t = true:=by have:=sg.b; simpa [scan0] using this
    have e2:=seal_unS h3 h4 hu
    refine ⟨h1,?_,h2⟩
    have e4:=sg.e
    rw [← e2] at e4
    have e5:=congrArg ByteArray.size e4
    rw [ByteArray.size_extract] at e5
    have l:=sg.l
    have hh:=sg.h
    simp only [scan0] at e5 l hh ⊢
    omega
end
end Am
namespace Am
open Go Go.Proofs
open Cel (cells)
set_option maxRecDepth 100000
@[simp] def h53:Hts:={ merge:=fun _ => false,dr:=fun id => if id = 2 then [{},{},{},{},{},{},{},{ mb:=[20,21,22] },{ mb:=[20,21,22] },{ cr:=true,mb:=[20,21,22] },{ mb:=[17] },{ mb:=[17] },{ cr:=true,mb:=[17] },{ cr:=true,mb:=[17] },{ cr:=true,mb:=[17] },{},{}] else [] }
set_option maxHeartbeats 1000000 in
theorem f53_ok (t:ByteArray) (ht:t.size ≤ 1073741824):FnR Tryz.prog 53 [.v (.str t)] (.tup [.v (.str (unS t)),.v (.bool (unOk t))]):=by
  have w:IntKind.i64.wrap ((t.size:Int) - 4) = t.size - 4:=wrap64 (by omega) (by omega)
  refine FnW.of_AW TryzT_ok 0 (fn:=Tryz.f53) (by kernel_rfl) rfl (by kernel_rfl) rfl rfl rfl ?_; refine AW_of h53 TryzT_ok (by kernel_rfl) ?_
  rcases Nat.lt_or_ge t.size 4 with h | h
  · have h1:(t.size:Int) - 4 < 0:=by omega
    simp -dsimp [w,h1]
    have:unOk t = false:=by simp [unOk]; omega
    simp [unS,this]
  · have h1:¬ (t.size:Int) - 4 < 0:=by omega
    have h1':0 ≤ (t.size:Int) - 4:=by omega
    rcases Nat.lt_or_ge 20004 t.size with k | k
    · have k1:20000 < (t.size:Int) - 4:=by omega
      simp -dsimp [w,h1,h1',k1]
      have:unOk t = false:=by simp [unOk]; omega
      simp [unS,this]
    · have k1:¬ 20000 < (t.size:Int) - 4:=by omega
      have e:((t.size:Int) - 4).toNat = t.size - 4:=by omega
      simp -dsimp [w,h1,h1',k1,e]
      refine ⟨by omega,?_⟩
      have hz:(t.extract 0 (t.size - 4)).size ≤ 1073741824:=by rw [ByteArray.size_extract]; omega
      refine ACallK_of (f122_ok _ hz) ?_
      simp -dsimp
      refine ACallK_of (f121_ok _ (sumOf_range _).1 (sumOf_range _).2) ?_
      by_cases hx:t.extract (t.size - 4) t.size = fourS (sumOf (t.extract 0 (t.size - 4)))
      · have:unOk t = true:=by simp only [unOk,Bool.and_eq_true,decide_eq_true_eq]; exact ⟨h,k,hx⟩
        simp -dsimp [hx,w,h1',e]
        simp [unS,this]
        try omega
      · have:unOk t = false:=by simp [unOk,hx]
        simp -dsimp [hx,w,h1',e]
        simp [unS,this]
        try omega
@[simp] def h40:Hts:={ merge:=fun _ => false }
set_option maxHeartbeats 1000000 in
theorem f40_ok (t:ByteArray) (ht:t.size ≤ 1073741824):FnR Tryz.prog 40 [.v (.str t)] (.tup [.v (.str (unS t)),.v (.bool (unOk t))]):=by
  have w:IntKind.i64.wrap ((t.size:Int) - 4) = t.size - 4:=wrap64 (by omega) (by omega)
  refine FnW.of_AW TryzT_ok 0 (fn:=Tryz.f40) (by kernel_rfl) rfl (by kernel_rfl) rfl rfl rfl ?_; refine AW_of h40 TryzT_ok (by kernel_rfl) ?_
  rcases Nat.lt_or_ge t.size 4 with h | h
  · have h1:(t.size:Int) - 4 < 0:=by omega
    simp -dsimp [w,h1]
    have:unOk t = false:=by simp [unOk]; omega
    simp [unS,this]
  · have h1:¬ (t.size:Int) - 4 < 0:=by omega
    have h1':0 ≤ (t.size:Int) - 4:=by omega
    have e:((t.size:Int) - 4).toNat = t.size - 4:=by omega
    have hz:(t.extract 0 (t.size - 4)).size ≤ 1073741824:=by rw [ByteArray.size_extract]; omega
    have hz':(t.extract 0 (t.size - 4)).size = t.size - 4:=by rw [ByteArray.size_extract]; omega
    simp -dsimp [w,h1,h1',e]
    refine ⟨by omega,?_⟩
    refine ACallK_of (f35_ok _ hz) ?_
    rcases Nat.lt_or_ge 20004 t.size with k | k
    · have k1:sealOk (t.extract 0 (t.size - 4)) = false:=by simp only [sealOk,hz',decide_eq_false_iff_not]; omega
      simp -dsimp [k1]
      have:unOk t = false:=by simp [unOk]; omega
      simp [unS,this]
    · have k1:sealOk (t.extract 0 (t.size - 4)) = true:=by simp only [sealOk,hz',decide_eq_true_eq]; omega
      have k2:sealS (t.extract 0 (t.size - 4)) = t ↔ unOk t = true:=by
        rw [sealS,if_pos (by omega)]
        have e1:t.extract 0 (t.size - 4) ++ t.extract (t.size - 4) t.size = t:=by
          rw [ByteArray.extract_append_extract,Nat.min_eq_left (by omega),Nat.max_eq_right (by omega)]
          exact ba_all t
        constructor
        · intro hx
          simp only [unOk,Bool.and_eq_true,decide_eq_true_eq]
          refine ⟨h,k,?_⟩
          exact ((ByteArray.append_right_inj _).1 (hx.trans e1.symm)).symm
        · intro hx
          simp only [unOk,Bool.and_eq_true,decide_eq_true_eq] at hx
          rw [← hx.2.2]; exact e1
      cases hu:unOk t
      · have k3:¬ sealS (t.extract 0 (t.size - 4)) = t:=by rw [k2,hu]; simp
        simp -dsimp [k1,k3]
        simp [unS,hu]
      · have k3:sealS (t.extract 0 (t.size - 4)) = t:=by rw [k2,hu]
        simp -dsimp [k1,k3,w,h1',e]
        simp [unS,hu]
        try omega
theorem knowM_t (s:GScan):(knowM s).2.t = s.t:=kn_t s 3
theorem kn_pos {s:GScan} (h:0 ≤ s.pos):∀ i,0 ≤ (kn s i).2.pos
  | 0 => h
  | i + 1 => by rw [kn]; exact numM_pos (kn_pos h i)
theorem lsS_t {α:Type} {r:GScan → α × GScan} (hr:∀ s,(r s).2.t = s.t) (s:GScan):∀ i,(lsS r s i).2.t = s.t
  | 0 => rfl
  | i + 1 => by
    rw [lsS]
    split
    · exact lsS_t hr s i
    · rw [hr,lsS_t hr s i]
theorem lsS_pos {α:Type} {r:GScan → α × GScan} (hr:∀ s,0 ≤ s.pos → 0 ≤ (r s).2.pos) {s:GScan} (h:0 ≤ s.pos):∀ i,0 ≤ (lsS r s i).2.pos
  | 0 => h
  | i + 1 => by
    rw [lsS]
    split
    · exact lsS_pos hr h i
    · exact hr _ (lsS_pos hr h i)
theorem liM_def {α:Type} [Cel α] (r:GScan → α × GScan) (s:GScan):liM r s = lsM r (cntM s).2 (cntM s).1.toNat:=rfl
theorem liS_def {α:Type} [Cel α] (r:GScan → α × GScan) (s:GScan):liS r s = lsS r (cntM s).2 (cntM s).1.toNat:=rfl
theorem liM_t {α:Type} [Cel α] {r:GScan → α × GScan} (hr:∀ s,(r s).2.t = s.t) (s:GScan):(liM r s).2.t = s.t:=by unfold liM; rw [lsM_t hr,cntM_t]
theorem liS_t {α:Type} [Cel α] {r:GScan → α × GScan} (hr:∀ s,(r s).2.t = s.t) (s:GScan):(liS r s).2.t = s.t:=by unfold liS; rw [lsS_t hr,cntM_t]
theorem liM_pos {α:Type} [Cel α] {r:GScan → α × GScan} (hr:∀ s,0 ≤ s.pos → 0 ≤ (r s).2.pos) {s:GScan} (h:0 ≤ s.pos):0 ≤ (liM r s).2.pos:=lsM_pos hr (cntM_pos h) _
theorem liS_pos {α:Type} [Cel α] {r:GScan → α × GScan} (hr:∀ s,0 ≤ s.pos → 0 ≤ (r s).2.pos) {s:GScan} (h:0 ≤ s.pos):0 ≤ (liS r s).2.pos:=lsS_pos hr (cntM_pos h) _
end Am
