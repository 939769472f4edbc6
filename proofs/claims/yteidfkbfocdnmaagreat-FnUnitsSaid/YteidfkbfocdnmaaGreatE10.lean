/- Numbers in bytes. No condition. -/
import Derived.Test.YteidfkbfocdnmaaGreatT
import Derived.Test.YteidfkbfocdnmaaGreatD
import Derived.Test.YteidfkbfocdnmaaGreatE2
import Derived.Test.YteidfkbfocdnmaaGreatAm29
import Derived.Test.YteidfkbfocdnmaaGreatAm32
import Derived.Test.YteidfkbfocdnmaaGreatE9
import Derived.Test.YteidfkbfocdnmaaGreatAm31
set_option linter.unusedSimpArgs false
set_option linter.unusedVariables false
set_option linter.unnecessarySimpa false
set_option linter.unusedSectionVars false
namespace Am
open Go Go.Proofs
open Cel (cells)
set_option maxRecDepth 100000
def varB (n:Nat):List UInt8:=if n ≤ 127 then [u8 n] else u8 ((n:Int) % 128 + 128) :: varB (n / 128)
termination_by n
decreasing_by omega
def varS (n:Int):ByteArray:=str (varB n.toNat)
theorem varB_small {n:Nat} (h:n ≤ 127):varB n = [u8 n]:=by rw [varB,if_pos h]
theorem varB_great {n:Nat} (h:¬ n ≤ 127):varB n = u8 ((n:Int) % 128 + 128) :: varB (n / 128):=by rw [varB,if_neg h]
theorem varB_len:∀ (k n:Nat),n < 128 ^ (k + 1) → (varB n).length ≤ k + 1
  | 0,n,h => by rw [varB_small (by omega)]; simp
  | k + 1,n,h => by
    by_cases h1:n ≤ 127
    · rw [varB_small h1]; simp
    · rw [varB_great h1]
      have:=varB_len k (n / 128) (by rw [Nat.pow_succ] at h; omega)
      simp; omega
theorem varB_five {n:Nat} (h:n ≤ 1000000000):(varB n).length ≤ 5:=varB_len 4 n (by omega)
theorem varS_five {n:Int} (h:n ≤ 1000000000):(varS n).size ≤ 5:=by
  rw [varS,str_size]; exact varB_five (by omega)
theorem tmod_pos {n m:Nat}:(n:Int).tmod m = ((n % m:Nat):Int):=by
  rw [Int.tmod_eq_emod_of_nonneg (by omega)]; rfl
theorem tdiv_pos {n m:Nat}:(n:Int).tdiv m = ((n / m:Nat):Int):=by
  rw [Int.tdiv_eq_ediv_of_nonneg (by omega)]; rfl
@[simp] def h316:Hts:={  }
theorem f316_ok (n:Int) (h0:0 ≤ n) (h1:n ≤ 1000000000):FnR Tryz.prog 316 [.v (.int .i64 n)] (.v (.str (varS n))):=by
  obtain ⟨m,rfl⟩:=Int.eq_ofNat_of_zero_le h0
  have hl:=varB_five (n:=m) (by omega)
  refine FnW.of_AW TryzT_ok 0 (fn:=Tryz.f316) (by kernel_rfl) rfl (by kernel_rfl) rfl rfl rfl ?_; refine AW_of h316 TryzT_ok (by kernel_rfl) ?_
  simp -dsimp
  refine AWh_loop (fun s:Nat × List UInt8 => s.1 ≤ 1000000000 ∧ s.2 ++ varB s.1 = varB m) (fun s => mkE [(0,.c (.int .i64 s.1)),(3,.arr 256)] [(256,.arr 0 5 1 s.2.length (flat s.2))]) (fun s => s.1) (m,[]) (Wk_to [0,3] [(256,256)] rfl rfl (by simp)) (by simp; omega) ?_
  rintro ⟨k,p⟩ ⟨hk,hp⟩
  have hpl:p.length + (varB k).length ≤ 5:=by rw [← List.length_append,hp]; exact hl
  simp only at hk hp
  refine AW_of h316 TryzT_ok (by kernel_rfl) ?_
  rcases Nat.lt_or_ge 127 k with h1 | h1
  · have hi:(127:Int) < k:=by omega
    have e1:(k:Int).tmod 128 = (k:Int) % 128:=tmod_pos (m:=128)
    have e2:(k:Int).tdiv 128 = (k:Int) / 128:=tdiv_pos (m:=128)
    have w1:IntKind.i64.wrap ((k:Int) % 128 + 128) = (k:Int) % 128 + 128:=wrap64 (by omega) (by omega)
    have w2:IntKind.i64.wrap ((k:Int) / 128) = (k:Int) / 128:=wrap64 (by omega) (by omega)
    have hg:¬ k ≤ 127:=by omega
    simp -dsimp [hi,e1,e2,w1,w2]
    refine ⟨by simp [capMax]; omega,?_⟩
    exact Back_of (k / 128,p ++ [u8 ((k:Int) % 128 + 128)]) [0,3] [(256,832)] rfl rfl (by simp) ⟨by simp only; omega,by simp only; rw [← hp,varB_great hg]; simp⟩ (by simp only; omega)
  · have hi:¬ (127:Int) < k:=by omega
    have hj:(k:Int) ≤ 127:=by omega
    simp -dsimp [hi,hj]
    refine ⟨by simp [capMax]; omega,?_⟩
    rw [varB_small h1] at hp
    rw [varS,Int.toNat_natCast,← hp]
    rfl
@[simp] def h297:Hts:={ mergeF:=fun f => f == 156 }
theorem f297_ok (n:Int) (h0:0 ≤ n) (h1:n ≤ 1000000000):FnR Tryz.prog 297 [.v (.int .i64 n)] (.tup [.v (.str (varS n)),.v (.bool true)]):=by
  obtain ⟨m,rfl⟩:=Int.eq_ofNat_of_zero_le h0
  have hl:=varB_five (n:=m) (by omega)
  have hw:spIn m 0 1000000000 = true:=by simp [spIn]; omega
  refine FnW.of_AW TryzT_ok 0 (fn:=Tryz.f297) (by kernel_rfl) rfl (by kernel_rfl) rfl rfl rfl ?_; refine AW_of h297 TryzT_ok (by kernel_rfl) ?_
  simp -dsimp
  refine ACallK_of (f156_ok _ _ _) ?_
  simp -dsimp [hw]
  refine AWh_loop (fun s:Nat × List UInt8 => s.1 ≤ 1000000000 ∧ s.2 ++ varB s.1 = varB m) (fun s => mkE [(0,.c (.int .i64 s.1)),(4,.arr 512)] [(512,.arr 0 5 1 s.2.length (flat s.2))]) (fun s => s.1) (m,[]) (Wk_to [0,4] [(512,512)] rfl rfl (by simp)) (by simp; omega) ?_
  rintro ⟨k,p⟩ ⟨hk,hp⟩
  have hpl:p.length + (varB k).length ≤ 5:=by rw [← List.length_append,hp]; exact hl
  simp only at hk hp
  refine AW_of h297 TryzT_ok (by kernel_rfl) ?_
  rcases Nat.lt_or_ge 127 k with h1 | h1
  · have hi:(127:Int) < k:=by omega
    have e1:(k:Int).tmod 128 = (k:Int) % 128:=tmod_pos (m:=128)
    have e2:(k:Int).tdiv 128 = (k:Int) / 128:=tdiv_pos (m:=128)
    have w1:IntKind.i64.wrap ((k:Int) % 128 + 128) = (k:Int) % 128 + 128:=wrap64 (by omega) (by omega)
    have w2:IntKind.i64.wrap ((k:Int) / 128) = (k:Int) / 128:=wrap64 (by omega) (by omega)
    have hg:¬ k ≤ 127:=by omega
    simp -dsimp [hi,e1,e2,w1,w2]
    refine ⟨by simp [capMax]; omega,?_⟩
    exact Back_of (k / 128,p ++ [u8 ((k:Int) % 128 + 128)]) [0,4] [(512,1088)] rfl rfl (by simp) ⟨by simp only; omega,by simp only; rw [← hp,varB_great hg]; simp⟩ (by simp only; omega)
  · have hi:¬ (127:Int) < k:=by omega
    have hj:(k:Int) ≤ 127:=by omega
    simp -dsimp [hi,hj]
    refine ⟨by simp [capMax]; omega,?_⟩
    rw [varB_small h1] at hp
    rw [varS,Int.toNat_natCast,← hp]
    rfl
end Am
namespace Am
open Go Go.Proofs
open Cel (cells)
set_option maxRecDepth 100000
def catN (f:Nat → ByteArray):Nat → ByteArray
  | 0 => ⟨#[]⟩
  | n + 1 => catN f n ++ f n
theorem catN_size {f:Nat → ByteArray} {b:Nat}:∀ {n:Nat},(∀ i:Nat,i < n → (f i).size ≤ b) → (catN f n).size ≤ n * b
  | 0,_ => by simp [catN,ByteArray.size]
  | n + 1,h => by
    have h1:=catN_size (f:=f) (b:=b) (n:=n) fun i hi => h i (by omega)
    have h2:=h n (by omega)
    rw [catN,ByteArray.size_append,Nat.succ_mul]
    omega
theorem nil_app (x:ByteArray):(⟨#[]⟩:ByteArray) ++ x = x:=by
  apply ByteArray.ext
  simp [ByteArray.data_append]
theorem app_nil (x:ByteArray):x ++ (⟨#[]⟩:ByteArray) = x:=by
  apply ByteArray.ext
  simp [ByteArray.data_append]
theorem app_assoc (x y z:ByteArray):x ++ y ++ z = x ++ (y ++ z):=ByteArray.append_assoc
def numOk (n:Int):Prop:=0 ≤ n ∧ n ≤ 1000000000
def varsF (xs:List Int) (i:Nat):ByteArray:=varS (nth xs i)
def varsS (xs:List Int):ByteArray:=catN (varsF xs) xs.length
def shortS (s:ByteArray):ByteArray:=varS s.size ++ s
def shortsF (xs:List ByteArray) (i:Nat):ByteArray:=shortS (nth xs i)
def shortsS (xs:List ByteArray):ByteArray:=catN (shortsF xs) xs.length
def dotS (d:GDot):ByteArray:=varS d.rep ++ varS d.seq
def flagS (b:Bool):ByteArray:=str [cond b 1 0]
theorem varsS_two (a b:Int):varsS [a,b] = varS a ++ varS b:=by
  show catN _ 2 = _
  rw [catN,catN,catN,nil_app]; rfl
theorem varsS_one (a:Int):varsS [a] = varS a:=by
  show catN _ 1 = _
  rw [catN,catN,nil_app]; rfl
theorem shortsS_one (a:ByteArray):shortsS [a] = shortS a:=by
  show catN _ 1 = _
  rw [catN,catN,nil_app]; rfl
theorem shortsS_two (a b:ByteArray):shortsS [a,b] = shortS a ++ shortS b:=by
  show catN _ 2 = _
  rw [catN,catN,catN,nil_app]; rfl
@[simp] def h178:Hts:={  }
theorem f178_ok (xs:List Int) (ha:xs.length ≤ 1073741824) (hx:∀ i:Nat,i < xs.length → numOk (nth xs i)):FnR Tryz.prog 178 [.v (.im xs.length (flat xs))] (.v (.str (varsS xs))):=by
  refine FnW.of_AW TryzT_ok 0 (fn:=Tryz.f178) (by kernel_rfl) rfl (by kernel_rfl) rfl rfl rfl ?_; refine AW_of h178 TryzT_ok (by kernel_rfl) ?_
  simp -dsimp
  refine AWh_loop (fun i:Nat => i ≤ xs.length) (fun i => mkE [(3,.c (.str (catN (varsF xs) i))),(8,.c (.im xs.length (flat xs))),(9,.c (.int .i64 xs.length)),(10,.c (.int .i64 i))] []) (fun i => xs.length - i) 0 (Wk_to [3,8,9,10] [] rfl rfl (by simp [catN])) (by simp) ?_
  rintro i hi
  have hs:(catN (varsF xs) i).size ≤ i * 5:=catN_size fun j hj => varS_five (hx j (by omega)).2
  refine AW_of h178 TryzT_ok (by kernel_rfl) ?_
  rcases Nat.lt_or_ge i xs.length with h1 | h1
  · have h5:=varS_five (hx i h1).2
    simp -dsimp [h1,ne_of_lt h1]
    refine ACallK_of (f297_ok _ (hx i h1).1 (hx i h1).2) ?_
    simp -dsimp
    refine ⟨by simp [capMax]; omega,?_⟩
    exact Back_of (i + 1) [3,8,9,10] [] rfl rfl (by simp [catN,varsF]; rw [wrap64 (by omega) (by omega)]) (by omega) (by omega)
  · obtain rfl:i = xs.length:=by omega
    simp -dsimp
    rfl
@[simp] def h306:Hts:={  }
theorem f306_ok (xs:List Int) (ha:xs.length ≤ 1073741824) (hx:∀ i:Nat,i < xs.length → numOk (nth xs i)):FnR Tryz.prog 306 [.v (.im xs.length (flat xs))] (.v (.str (varsS xs))):=by
  refine FnW.of_AW TryzT_ok 0 (fn:=Tryz.f306) (by kernel_rfl) rfl (by kernel_rfl) rfl rfl rfl ?_; refine AW_of h306 TryzT_ok (by kernel_rfl) ?_
  simp -dsimp
  refine AWh_loop (fun i:Nat => i ≤ xs.length) (fun i => mkE [(0,.c (.im xs.length (flat xs))),(3,.c (.str (catN (varsF xs) i))),(4,.c (.int .i64 i))] []) (fun i => xs.length - i) 0 (Wk_to [0,3,4] [] rfl rfl (by simp [catN])) (by simp) ?_
  rintro i hi
  have hs:(catN (varsF xs) i).size ≤ i * 5:=catN_size fun j hj => varS_five (hx j (by omega)).2
  refine AW_of h306 TryzT_ok (by kernel_rfl) ?_
  rcases Nat.lt_or_ge i xs.length with h1 | h1
  · have h5:=varS_five (hx i h1).2
    simp -dsimp [h1,ne_of_lt h1]
    refine ACallK_of (f316_ok _ (hx i h1).1 (hx i h1).2) ?_
    simp -dsimp
    refine ⟨by simp [capMax]; omega,?_⟩
    exact Back_of (i + 1) [0,3,4] [] rfl rfl (by simp [catN,varsF]; rw [wrap64 (by omega) (by omega)]) (by omega) (by omega)
  · obtain rfl:i = xs.length:=by omega
    simp -dsimp
    rfl
@[simp] def h317:Hts:={ dr:=fun id => if id = 1 then [{},{},{ cr:=true },{ mb:=[5] },{ mb:=[5] },{ cr:=true },{},{}] else [] }
theorem f317_ok (d:GDot) (h1:numOk d.rep) (h2:numOk d.seq):FnR Tryz.prog 317 [.agg [.int .i64 d.rep,.int .i64 d.seq]] (.v (.str (dotS d))):=by
  have s1:=varS_five h1.2
  have s2:=varS_five h2.2
  refine FnW.of_AW TryzT_ok 0 (fn:=Tryz.f317) (by kernel_rfl) rfl (by kernel_rfl) rfl rfl rfl ?_; refine AW_of h317 TryzT_ok (by kernel_rfl) ?_
  simp -dsimp
  refine ACallK_of (f316_ok _ h1.1 h1.2) ?_
  simp -dsimp
  refine ACallK_of (f316_ok _ h2.1 h2.2) ?_
  simp -dsimp
  exact ⟨by simp [capMax]; omega,rfl⟩
@[simp] def h189:Hts:={  }
theorem f189_ok (d:GDot) (h1:numOk d.rep) (h2:numOk d.seq):FnR Tryz.prog 189 [.agg [.int .i64 d.rep,.int .i64 d.seq]] (.v (.str (dotS d))):=by
  refine FnW.of_AW TryzT_ok 0 (fn:=Tryz.f189) (by kernel_rfl) rfl (by kernel_rfl) rfl rfl rfl ?_; refine AW_of h189 TryzT_ok (by kernel_rfl) ?_
  simp -dsimp
  refine ACallK_of (f178_ok [d.rep,d.seq] (by simp) (by
    intro i hi
    match i,hi with
    | 0,_ => exact h1
    | 1,_ => exact h2)) ?_
  simp -dsimp
  exact varsS_two _ _
@[simp] def h210:Hts:={  }
theorem f210_ok (s:ByteArray) (hs:s.size ≤ 20000):FnR Tryz.prog 210 [.v (.str s)] (.tup [.v (.str (shortS s)),.v (.bool true)]):=by
  have h5:(varS s.size).size ≤ 5:=varS_five (by omega)
  have hi:¬ (20000:Int) < s.size:=by omega
  have hj:(s.size:Int) ≤ 20000:=by omega
  refine FnW.of_AW TryzT_ok 0 (fn:=Tryz.f210) (by kernel_rfl) rfl (by kernel_rfl) rfl rfl rfl ?_; refine AW_of h210 TryzT_ok (by kernel_rfl) ?_
  simp -dsimp [hi,hj]
  refine ACallK_of (f297_ok _ (by omega) (by omega)) ?_
  simp -dsimp
  exact ⟨by simp [capMax]; omega,rfl⟩
@[simp] def h212:Hts:={  }
theorem f212_ok (s:ByteArray) (hs:s.size ≤ 1000000000):FnR Tryz.prog 212 [.v (.str s)] (.v (.str (shortS s))):=by
  have h5:(varS s.size).size ≤ 5:=varS_five (by omega)
  refine FnW.of_AW TryzT_ok 0 (fn:=Tryz.f212) (by kernel_rfl) rfl (by kernel_rfl) rfl rfl rfl ?_; refine AW_of h212 TryzT_ok (by kernel_rfl) ?_
  simp -dsimp
  refine ACallK_of (f316_ok _ (by omega) (by omega)) ?_
  simp -dsimp
  exact ⟨by simp [capMax]; omega,rfl⟩
@[simp] def h298:Hts:={  }
theorem f298_ok (xs:List ByteArray) (ha:xs.length ≤ 1000000) (hx:∀ i:Nat,i < xs.length → (nth xs i).size ≤ 20000):FnR Tryz.prog 298 [.v (.im xs.length (flat xs))] (.v (.str (shortsS xs))):=by
  have hz:∀ i:Nat,i < xs.length → (shortsF xs i).size ≤ 20005:=fun i hi => by
    have:=hx i hi
    have h5:(varS (nth xs i).size).size ≤ 5:=varS_five (by omega)
    rw [shortsF,shortS,ByteArray.size_append]; omega
  refine FnW.of_AW TryzT_ok 0 (fn:=Tryz.f298) (by kernel_rfl) rfl (by kernel_rfl) rfl rfl rfl ?_; refine AW_of h298 TryzT_ok (by kernel_rfl) ?_
  simp -dsimp
  refine AWh_loop (fun i:Nat => i ≤ xs.length) (fun i => mkE [(3,.c (.str (catN (shortsF xs) i))),(8,.c (.im xs.length (flat xs))),(9,.c (.int .i64 xs.length)),(10,.c (.int .i64 i))] []) (fun i => xs.length - i) 0 (Wk_to [3,8,9,10] [] rfl rfl (by simp [catN])) (by simp) ?_
  rintro i hi
  have hs:(catN (shortsF xs) i).size ≤ i * 20005:=catN_size fun j hj => hz j (by omega)
  refine AW_of h298 TryzT_ok (by kernel_rfl) ?_
  rcases Nat.lt_or_ge i xs.length with h1 | h1
  · have h5:=hz i h1
    simp -dsimp [h1,ne_of_lt h1]
    refine ACallK_of (f210_ok _ (hx i h1)) ?_
    simp -dsimp
    refine ⟨by rw [shortsF] at h5; simp [capMax]; omega,?_⟩
    exact Back_of (i + 1) [3,8,9,10] [] rfl rfl (by simp [catN,shortsF]; rw [wrap64 (by omega) (by omega)]) (by omega) (by omega)
  · obtain rfl:i = xs.length:=by omega
    simp -dsimp
    rfl
@[simp] def h388:Hts:={  }
theorem f388_ok (b:Bool):FnR Tryz.prog 388 [.v (.bool b)] (.v (.str (flagS b))):=by
  refine FnW.of_AW TryzT_ok 0 (fn:=Tryz.f388) (by kernel_rfl) rfl (by kernel_rfl) rfl rfl rfl ?_; refine AW_of h388 TryzT_ok (by kernel_rfl) ?_
  cases b <;> simp -dsimp <;> rfl
@[simp] def h299:Hts:={  }
theorem f299_ok (b:Bool):FnR Tryz.prog 299 [.v (.bool b)] (.v (.str (flagS b))):=by
  refine FnW.of_AW TryzT_ok 0 (fn:=Tryz.f299) (by kernel_rfl) rfl (by kernel_rfl) rfl rfl rfl ?_; refine AW_of h299 TryzT_ok (by kernel_rfl) ?_
  cases b <;> simp -dsimp <;> rfl
end Am
namespace Am
open Go Go.Proofs
open Cel (cells)
set_option maxRecDepth 100000
def xor32 (a b:Int):Int:=IntKind.u32.wrap (BitVec.ofInt 32 a ^^^ BitVec.ofInt 32 b).toNat
@[simp ↓ high] theorem xor_u32 (a b:Int):abits .u32 (BitVec.ofInt IntKind.u32.bits a ^^^ BitVec.ofInt IntKind.u32.bits b) = .int .u32 (xor32 a b):=rfl
def bit1 (s:Int):Int:=if s.tmod 2 = 1 then xor32 (IntKind.u32.wrap (s.tdiv 2)) 3558460437 else IntKind.u32.wrap (s.tdiv 2)
def bitK:Nat → Int → Int
  | 0,s => s
  | k + 1,s => bit1 (bitK k s)
def sumK (t:ByteArray):Nat → Int → Int
  | 0,s => s
  | i + 1,s => bitK 8 (xor32 (sumK t i s) (IntKind.u32.wrap (bt t i)))
def sumMore (s:Int) (t:ByteArray):Int:=sumK t t.size s
@[simp] def h387:Hts:={  }
theorem f387_ok (s:Int) (t:ByteArray) (ht:t.size ≤ 1073741824):FnR Tryz.prog 387 [.v (.int .u32 s),.v (.str t)] (.v (.int .u32 (sumMore s t))):=by
  refine FnW.of_AW TryzT_ok 0 (fn:=Tryz.f387) (by kernel_rfl) rfl (by kernel_rfl) rfl rfl rfl ?_; refine AW_of h387 TryzT_ok (by kernel_rfl) ?_
  simp -dsimp
  refine AWh_loop (fun i:Nat => i ≤ t.size) (fun i => mkE [(0,.c (.int .u32 (sumK t i s))),(1,.c (.str t)),(5,.c (.int .i64 i))] []) (fun i => t.size - i) 0 (Wk_to [0,1,5] [] rfl rfl (by simp [sumK])) (by simp) ?_
  rintro i hi
  refine AW_of h387 TryzT_ok (by kernel_rfl) ?_
  rcases Nat.lt_or_ge i t.size with h1 | h1
  · simp -dsimp [h1,ne_of_lt h1]
    refine AWh_loop (fun k:Nat => k ≤ 8) (fun k => mkE [(0,.c (.int .u32 (bitK k (xor32 (sumK t i s) (IntKind.u32.wrap (bt t i)))))),(1,.c (.str t)),(5,.c (.int .i64 i)),(19,.c (.int .i64 k))] []) (fun k => 8 - k) 0 (Wk_to [0,1,5,19] [] rfl rfl (by simp [bitK,xor_u32])) (by simp) ?_
    rintro k hk
    refine AW_of h387 TryzT_ok (by kernel_rfl) ?_
    rcases Nat.lt_or_ge k 8 with k1 | k1
    · have ki:(k:Int) < 8:=by omega
      simp -dsimp [ki,xor_u32]
      refine ⟨fun h => ?_,fun h => ?_⟩
      · exact Back_of (k + 1) [0,1,5,19] [] rfl rfl (by simp [bitK,bit1,xor_u32,h]; rw [wrap64 (by omega) (by omega)]) (by omega) (by omega)
      · exact Back_of (k + 1) [0,1,5,19] [] rfl rfl (by simp [bitK,bit1,xor_u32,h]; rw [wrap64 (by omega) (by omega)]) (by omega) (by omega)
    · obtain rfl:k = 8:=by omega
      simp -dsimp
      exact Back_of (i + 1) [0,1,5] [] rfl rfl (by simp [sumK]; rw [wrap64 (by omega) (by omega)]) (by omega) (by omega)
  · obtain rfl:i = t.size:=by omega
    simp -dsimp
    rfl
@[simp] def h389:Hts:={  }
theorem f389_ok (s:Int) (t:ByteArray) (ht:t.size ≤ 1073741824):FnR Tryz.prog 389 [.v (.int .u32 s),.v (.str t)] (.v (.int .u32 (sumMore s t))):=by
  refine FnW.of_AW TryzT_ok 0 (fn:=Tryz.f389) (by kernel_rfl) rfl (by kernel_rfl) rfl rfl rfl ?_; refine AW_of h389 TryzT_ok (by kernel_rfl) ?_
  simp -dsimp
  refine AWh_loop (fun i:Nat => i ≤ t.size) (fun i => mkE [(0,.c (.int .u32 (sumK t i s))),(1,.c (.str t)),(5,.c (.int .i64 i))] []) (fun i => t.size - i) 0 (Wk_to [0,1,5] [] rfl rfl (by simp [sumK])) (by simp) ?_
  rintro i hi
  refine AW_of h389 TryzT_ok (by kernel_rfl) ?_
  rcases Nat.lt_or_ge i t.size with h1 | h1
  · simp -dsimp [h1,ne_of_lt h1]
    refine AWh_loop (fun k:Nat => k ≤ 8) (fun k => mkE [(0,.c (.int .u32 (bitK k (xor32 (sumK t i s) (IntKind.u32.wrap (bt t i)))))),(1,.c (.str t)),(5,.c (.int .i64 i)),(6,.c (.int .i64 k))] []) (fun k => 8 - k) 0 (Wk_to [0,1,5,6] [] rfl rfl (by simp [bitK,xor_u32])) (by simp) ?_
    rintro k hk
    refine AW_of h389 TryzT_ok (by kernel_rfl) ?_
    rcases Nat.lt_or_ge k 8 with k1 | k1
    · have ki:(k:Int) < 8:=by omega
      simp -dsimp [ki,xor_u32]
      refine ⟨fun h => ?_,fun h => ?_⟩
      · exact Back_of (k + 1) [0,1,5,6] [] rfl rfl (by simp [bitK,bit1,xor_u32,h]; rw [wrap64 (by omega) (by omega)]) (by omega) (by omega)
      · exact Back_of (k + 1) [0,1,5,6] [] rfl rfl (by simp [bitK,bit1,xor_u32,h]; rw [wrap64 (by omega) (by omega)]) (by omega) (by omega)
    · obtain rfl:k = 8:=by omega
      simp -dsimp
      exact Back_of (i + 1) [0,1,5] [] rfl rfl (by simp [sumK]; rw [wrap64 (by omega) (by omega)]) (by omega) (by omega)
  · obtain rfl:i = t.size:=by omega
    simp -dsimp
    rfl
end Am
namespace Am
open Go Go.Proofs
open Cel (cells)
set_option maxRecDepth 100000
theorem u32_range (x:Int):0 ≤ IntKind.u32.wrap x ∧ IntKind.u32.wrap x < 4294967296:=by
  have h1:IntKind.u32.wrap x = x % 4294967296:=rfl
  omega
theorem xor32_range (a b:Int):0 ≤ xor32 a b ∧ xor32 a b < 4294967296:=u32_range _
theorem bit1_range (s:Int):0 ≤ bit1 s ∧ bit1 s < 4294967296:=by
  unfold bit1
  split
  · exact xor32_range _ _
  · exact u32_range _
theorem bitK_range {s:Int} (h:0 ≤ s ∧ s < 4294967296):∀ k,0 ≤ bitK k s ∧ bitK k s < 4294967296
  | 0 => h
  | k + 1 => bit1_range _
theorem sumK_range {t:ByteArray} {s:Int} (h:0 ≤ s ∧ s < 4294967296):∀ i,0 ≤ sumK t i s ∧ sumK t i s < 4294967296
  | 0 => h
  | i + 1 => bitK_range (xor32_range _ _) 8
def sumOf (t:ByteArray):Int:=sumMore 4294967295 t
theorem sumOf_range (t:ByteArray):0 ≤ sumOf t ∧ sumOf t < 4294967296:=sumK_range (by decide) _
def fourL (s:Int):List UInt8:=[u8 (s / 16777216),u8 (s / 65536),u8 (s / 256),u8 s]
def fourS (s:Int):ByteArray:=str (fourL s)
theorem u8_of (v:Int):UInt8.ofNat (IntKind.u8.wrap v).toNat = u8 v:=by
  rw [u8_wrap]; simp
theorem u8_range (v:Int):0 ≤ IntKind.u8.wrap v ∧ IntKind.u8.wrap v < 256:=by
  have h1:IntKind.u8.wrap v = v % 256:=rfl
  omega
theorem u8_mod (v:Int):u8 (v % 256) = u8 v:=by
  unfold u8; congr 2; omega
@[simp] def h312:Hts:={  }
theorem f312_ok (t:ByteArray) (ht:t.size ≤ 1073741824):FnR Tryz.prog 312 [.v (.str t)] (.v (.int .u32 (sumOf t))):=by
  refine FnW.of_AW TryzT_ok 0 (fn:=Tryz.f312) (by kernel_rfl) rfl (by kernel_rfl) rfl rfl rfl ?_; refine AW_of h312 TryzT_ok (by kernel_rfl) ?_
  simp -dsimp
  refine ACallK_of (f389_ok _ _ ht) ?_
  simp -dsimp
  rfl
@[simp] def h296:Hts:={  }
theorem f296_ok (t:ByteArray) (ht:t.size ≤ 1073741824):FnR Tryz.prog 296 [.v (.str t)] (.v (.int .u32 (sumOf t))):=by
  refine FnW.of_AW TryzT_ok 0 (fn:=Tryz.f296) (by kernel_rfl) rfl (by kernel_rfl) rfl rfl rfl ?_; refine AW_of h296 TryzT_ok (by kernel_rfl) ?_
  simp -dsimp
  refine ACallK_of (f387_ok _ _ ht) ?_
  simp -dsimp
  rfl
@[simp] def h311:Hts:={  }
theorem f311_ok (s:Int) (h0:0 ≤ s) (h1:s < 4294967296):FnR Tryz.prog 311 [.v (.int .u32 s)] (.v (.str (fourS s))):=by
  have e1:s.fdiv (2 ^ min 24 IntKind.u32.bits) = s / 16777216:=Int.fdiv_eq_ediv_of_nonneg _ (by decide)
  have e2:s.fdiv (2 ^ min 16 IntKind.u32.bits) = s / 65536:=Int.fdiv_eq_ediv_of_nonneg _ (by decide)
  have e3:s.fdiv (2 ^ min 8 IntKind.u32.bits) = s / 256:=Int.fdiv_eq_ediv_of_nonneg _ (by decide)
  refine FnW.of_AW TryzT_ok 0 (fn:=Tryz.f311) (by kernel_rfl) rfl (by kernel_rfl) rfl rfl rfl ?_; refine AW_of h311 TryzT_ok (by kernel_rfl) ?_
  simp -dsimp [e1,e2,e3]
  refine ⟨⟨u8_range _,u8_range _,u8_range _,u8_range _,trivial⟩,?_⟩
  simp only [bytesOf,u8_of]
  rfl
def and64 (a b:Int):Int:=IntKind.i64.wrap (BitVec.ofInt 64 a &&& BitVec.ofInt 64 b).toNat
@[simp ↓ high] theorem and_i64 (a b:Int):abits .i64 (BitVec.ofInt IntKind.i64.bits a &&& BitVec.ofInt IntKind.i64.bits b) = .int .i64 (and64 a b):=rfl
theorem and_255 {a:Int} (h:0 ≤ a) (h':a < 9223372036854775808):and64 a 255 = a % 256:=by
  obtain ⟨n,rfl⟩:=Int.eq_ofNat_of_zero_le h
  unfold and64
  have e:(BitVec.ofInt 64 (n:Int) &&& BitVec.ofInt 64 255).toNat = n % 256:=by
    rw [BitVec.toNat_and]
    have e1:(BitVec.ofInt 64 (n:Int)).toNat = n:=by
      rw [BitVec.ofInt_natCast,BitVec.toNat_ofNat]; omega
    have e2:(BitVec.ofInt 64 255).toNat = 255:=by decide
    rw [e1,e2]
    exact Nat.and_two_pow_sub_one_eq_mod n 8
  rw [e,wrap64 (by omega) (by omega)]
  omega
def hfL (s:Int):Nat → List UInt8
  | 0 => List.replicate 4 0
  | j + 1 => (hfL s j).set (3 - j) (u8 (s / 256 ^ j))
theorem hfL_len (s:Int):∀ j,(hfL s j).length = 4
  | 0 => rfl
  | j + 1 => by rw [hfL,List.length_set,hfL_len s j]
theorem hfL_four (s:Int):hfL s 4 = fourL s:=by
  simp [hfL,fourL,List.replicate]
@[simp] def h295:Hts:={  }
theorem f295_ok (s:Int) (h0:0 ≤ s) (h1:s < 4294967296):FnR Tryz.prog 295 [.v (.int .i64 s),.v (.int .i64 4)] (.v (.str (fourS s))):=by
  refine FnW.of_AW TryzT_ok 0 (fn:=Tryz.f295) (by kernel_rfl) rfl (by kernel_rfl) rfl rfl rfl ?_; refine AW_of h295 TryzT_ok (by kernel_rfl) ?_
  simp -dsimp
  refine ⟨by decide,?_⟩
  refine AWh_loop (fun j:Nat => j ≤ 4) (fun j => mkE [(0,.c (.int .i64 (s / 256 ^ j))),(5,.arr 512),(6,.c (.int .i64 (3 - j)))] [(512,.arr 0 5 1 4 (flat (hfL s j)))]) (fun j => 4 - j) 0 (Wk_to [0,5,6] [(512,512)] rfl rfl (by simp [hfL]; rfl)) (by simp) ?_
  rintro j hj
  have hl:=hfL_len s j
  refine AW_of h295 TryzT_ok (by kernel_rfl) ?_
  have d1:0 ≤ s / 256 ^ j:=Int.ediv_nonneg h0 (Int.pow_nonneg (by decide))
  have d2:s / 256 ^ j ≤ s:=Int.ediv_le_self _ h0
  rcases Nat.lt_or_ge j 4 with k1 | k1
  · have t1:((3:Int) - j).toNat = 3 - j:=by omega
    have hk:(j:Int) ≤ 3:=by omega
    have hm:3 - j < (hfL s j).length:=by omega
    have ha:and64 (s / 256 ^ j) 255 = s / 256 ^ j % 256:=and_255 d1 (by omega)
    have hs:(s / 256 ^ j).fdiv (2 ^ min 8 IntKind.i64.bits) = s / 256 ^ (j + 1):=by
      rw [Int.pow_succ,← Int.ediv_ediv_of_nonneg (Int.pow_nonneg (by decide))]
      exact Int.fdiv_eq_ediv_of_nonneg _ (by decide)
    have hw:IntKind.i64.wrap ((3:Int) - j - 1) = 3 - ((j + 1:Nat):Int):=by rw [wrap64 (by omega) (by omega)]; omega
    simp -dsimp [hk,t1,ha,hm]
    refine ⟨by omega,by omega,?_⟩
    exact Back_of (j + 1) [0,5,6] [(512,512)] rfl rfl (by simp only [hfL,u8_mod,hs,hw]; rfl) (by omega) (by omega)
  · obtain rfl:j = 4:=by omega
    simp -dsimp [hfL_four]
    simp [fourS,str,fourL]
end Am
namespace Am
open Go Go.Proofs
open Cel (cells)
set_option maxRecDepth 100000
def sealOk (t:ByteArray):Bool:=decide (t.size ≤ 20000)
def sealS (t:ByteArray):ByteArray:=if t.size ≤ 20000 then t ++ fourS (sumOf t) else ⟨#[]⟩
theorem fourS_size (s:Int):(fourS s).size = 4:=by rw [fourS,str_size]; rfl
@[simp] def h195:Hts:={  }
theorem f195_ok (t:ByteArray) (ht:t.size ≤ 1073741824):FnR Tryz.prog 195 [.v (.str t)] (.tup [.v (.str (sealS t)),.v (.bool (sealOk t))]):=by
  have hr:=sumOf_range t
  have hf:=fourS_size (sumOf t)
  refine FnW.of_AW TryzT_ok 0 (fn:=Tryz.f195) (by kernel_rfl) rfl (by kernel_rfl) rfl rfl rfl ?_; refine AW_of h195 TryzT_ok (by kernel_rfl) ?_
  by_cases h:t.size ≤ 20000
  · have hi:¬ (20000:Int) < t.size:=by omega
    have hj:(t.size:Int) ≤ 20000:=by omega
    simp -dsimp [hi,hj]
    refine ACallK_of (f312_ok _ ht) ?_
    simp -dsimp
    refine ACallK_of (f311_ok _ hr.1 hr.2) ?_
    simp -dsimp
    exact ⟨by simp [capMax]; omega,by simp [sealS,h],by simp [sealOk,h]⟩
  · have hi:(20000:Int) < t.size:=by omega
    have hj:¬ (t.size:Int) ≤ 20000:=by omega
    simp -dsimp [hi,hj]
    simp [sealS,sealOk,h]
@[simp] def h177:Hts:={  }
theorem f177_ok (t:ByteArray) (ht:t.size ≤ 1073741824):FnR Tryz.prog 177 [.v (.str t)] (.tup [.v (.str (sealS t)),.v (.bool (sealOk t))]):=by
  have hr:=sumOf_range t
  have hf:=fourS_size (sumOf t)
  refine FnW.of_AW TryzT_ok 0 (fn:=Tryz.f177) (by kernel_rfl) rfl (by kernel_rfl) rfl rfl rfl ?_; refine AW_of h177 TryzT_ok (by kernel_rfl) ?_
  by_cases h:t.size ≤ 20000
  · have hi:¬ (20000:Int) < t.size:=by omega
    have hj:(t.size:Int) ≤ 20000:=by omega
    simp -dsimp [hi,hj]
    refine ACallK_of (f296_ok _ ht) ?_
    simp -dsimp
    rw [wrap64 (by omega) (by omega)]
    refine ACallK_of (f295_ok _ hr.1 hr.2) ?_
    simp -dsimp
    exact ⟨by simp [capMax]; omega,by simp [sealS,h],by simp [sealOk,h]⟩
  · have hi:(20000:Int) < t.size:=by omega
    have hj:¬ (t.size:Int) ≤ 20000:=by omega
    simp -dsimp [hi,hj]
    simp [sealS,sealOk,h]
def talR (t:GTally):Prop:=t.obj.size ≤ 8 ∧ numOk t.rep ∧ numOk t.sum
def dotR (d:GDot):Prop:=numOk d.rep ∧ numOk d.seq
def liveR (x:GLive):Prop:=x.obj.size ≤ 8 ∧ x.key.size ≤ 8 ∧ numOk x.val ∧ dotR x.dot
def cellR (x:GCell):Prop:=x.obj.size ≤ 8 ∧ dotR x.dot ∧ numOk x.time ∧ dotR x.ref ∧ numOk x.val
theorem shortS_size {s:ByteArray} (h:s.size ≤ 8):(shortS s).size ≤ 13:=by
  have h5:(varS s.size).size ≤ 5:=varS_five (by omega)
  rw [shortS,ByteArray.size_append]; omega
theorem varS_size {n:Int} (h:numOk n):(varS n).size ≤ 5:=varS_five h.2
theorem dotS_size {d:GDot} (h:dotR d):(dotS d).size ≤ 10:=by
  have:=varS_size h.1
  have:=varS_size h.2
  rw [dotS,ByteArray.size_append]; omega
theorem flagS_size (b:Bool):(flagS b).size = 1:=by rw [flagS,str_size]; rfl
def talS (t:GTally):ByteArray:=shortS t.obj ++ (varS t.rep ++ varS t.sum)
def liveS (x:GLive):ByteArray:=flagS x.map ++ ((shortS x.obj ++ shortS x.key) ++ (varS x.val ++ dotS x.dot))
def cellS (x:GCell):ByteArray:=shortS x.obj ++ (dotS x.dot ++ (varS x.time ++ (dotS x.ref ++ (varS x.val ++ flagS x.gone))))
def talF (l:List GTally) (i:Nat):ByteArray:=talS (nth l i)
def liveF (l:List GLive) (i:Nat):ByteArray:=liveS (nth l i)
def cellF (l:List GCell) (i:Nat):ByteArray:=cellS (nth l i)
def dotF (l:List GDot) (i:Nat):ByteArray:=dotS (nth l i)
theorem talS_size {t:GTally} (h:talR t):(talS t).size ≤ 100:=by
  have:=shortS_size h.1
  have:=varS_size h.2.1
  have:=varS_size h.2.2
  simp only [talS,ByteArray.size_append]; omega
theorem liveS_size {t:GLive} (h:liveR t):(liveS t).size ≤ 100:=by
  obtain ⟨h1,h2,h3,h4⟩:=h
  have:=shortS_size h1
  have:=shortS_size h2
  have:=varS_size h3
  have:=dotS_size h4
  have:=flagS_size t.map
  simp only [liveS,ByteArray.size_append]; omega
theorem cellS_size {t:GCell} (h:cellR t):(cellS t).size ≤ 100:=by
  obtain ⟨h1,h2,h3,h4,h5⟩:=h
  have:=shortS_size h1
  have:=dotS_size h2
  have:=varS_size h3
  have:=dotS_size h4
  have:=varS_size h5
  have:=flagS_size t.gone
  simp only [cellS,ByteArray.size_append]; omega
def talsS (l:List GTally):ByteArray:=varS l.length ++ catN (talF l) l.length
def livesS (l:List GLive):ByteArray:=varS l.length ++ catN (liveF l) l.length
def cellsS (l:List GCell):ByteArray:=varS l.length ++ catN (cellF l) l.length
def dotsS (l:List GDot):ByteArray:=varS l.length ++ catN (dotF l) l.length
@[simp] def h307:Hts:={ dr:=fun id => if id = 5 then [{ mb:=[20,27,34] },{},{},{},{},{},{ cr:=true },{ mb:=[27,34] },{ mb:=[20] },{ mb:=[20] },{ mb:=[20] },{ mb:=[20] },{ mb:=[20] },{ cr:=true },{ mb:=[34] },{ mb:=[20,27] },{ mb:=[20,27] },{ mb:=[20,27] },{ mb:=[20,27] },{ mb:=[20,27] },{ cr:=true },{},{}] else [] }
set_option maxHeartbeats 1000000 in
theorem f307_ok (l:List GTally) (ha:l.length ≤ 120) (hx:∀ i:Nat,i < l.length → talR (nth l i)):FnR Tryz.prog 307 [.v (.im l.length (flat l))] (.v (.str (talsS l))):=by
  have hv:(varS l.length).size ≤ 5:=varS_five (by omega)
  refine FnW.of_AW TryzT_ok 0 (fn:=Tryz.f307) (by kernel_rfl) rfl (by kernel_rfl) rfl rfl rfl ?_; refine AW_of h307 TryzT_ok (by kernel_rfl) ?_
  simp -dsimp
  refine ACallK_of (f316_ok _ (by omega) (by omega)) ?_
  simp -dsimp
  refine AWh_loop (fun i:Nat => i ≤ l.length) (fun i => mkE [(0,.c (.im l.length (flat l))),(3,.c (.str (varS l.length ++ catN (talF l) i))),(4,.c (.int .i64 i))] []) (fun i => l.length - i) 0 (Wk_to [0,3,4] [] rfl rfl (by simp [catN,app_nil])) (by simp) ?_
  rintro i hi
  have hs:(catN (talF l) i).size ≤ i * 100:=catN_size fun j hj => talS_size (hx j (by omega))
  refine AW_of h307 TryzT_ok (by kernel_rfl) ?_
  rcases Nat.lt_or_ge i l.length with h1 | h1
  · have hr:=hx i h1
    have q1:=shortS_size hr.1; have q2:=varS_size hr.2.1; have q3:=varS_size hr.2.2
    simp -dsimp [h1,ne_of_lt h1]
    repeat (first | refine ⟨by omega,?_⟩ | refine ⟨by simp [capMax,ByteArray.size_append]; omega,?_⟩)
    refine ACallK_of (f212_ok _ (Nat.le_trans hr.1 (by decide))) ?_
    simp -dsimp [h1,ne_of_lt h1,shortsS_one,shortsS_two,varsS_one,varsS_two]
    repeat (first | refine ⟨by omega,?_⟩ | refine ⟨by simp [capMax,ByteArray.size_append]; omega,?_⟩)
    refine ACallK_of (f316_ok _ hr.2.1.1 hr.2.1.2) ?_
    simp -dsimp [h1,ne_of_lt h1,shortsS_one,shortsS_two,varsS_one,varsS_two]
    repeat (first | refine ⟨by omega,?_⟩ | refine ⟨by simp [capMax,ByteArray.size_append]; omega,?_⟩)
    refine ACallK_of (f316_ok _ hr.2.2.1 hr.2.2.2) ?_
    simp -dsimp [h1,ne_of_lt h1,shortsS_one,shortsS_two,varsS_one,varsS_two]
    repeat (first | refine ⟨by omega,?_⟩ | refine ⟨by simp [capMax,ByteArray.size_append]; omega,?_⟩)
    exact Back_of (i + 1) [0,3,4] [] rfl rfl (by simp [catN,talF,talS,app_assoc]; rw [wrap64 (by omega) (by omega)]) (by omega) (by omega)
  · obtain rfl:i = l.length:=by omega
    simp -dsimp
    rfl
@[simp] def h179:Hts:={ dr:=fun id => if id = 5 then [{ mb:=[19,20,25,26] },{ mb:=[25] },{ mb:=[25] },{ cr:=true,mb:=[25] },{ cr:=true,mb:=[25] },{ mb:=[19,20] },{ mb:=[19,20] },{ mb:=[19,20] },{ mb:=[19,20] },{ cr:=true,mb:=[19,20] },{ cr:=true },{},{},{}] else [] }
set_option maxHeartbeats 1000000 in
theorem f179_ok (l:List GTally) (ha:l.length ≤ 120) (hx:∀ i:Nat,i < l.length → talR (nth l i)):FnR Tryz.prog 179 [.v (.im l.length (flat l))] (.v (.str (talsS l))):=by
  have hv:(varS l.length).size ≤ 5:=varS_five (by omega)
  refine FnW.of_AW TryzT_ok 0 (fn:=Tryz.f179) (by kernel_rfl) rfl (by kernel_rfl) rfl rfl rfl ?_; refine AW_of h179 TryzT_ok (by kernel_rfl) ?_
  simp -dsimp
  refine ACallK_of (f178_ok [(l.length:Int)] (by simp) (by intro i hi; match i,hi with | 0,_ => exact ⟨show (0:Int) ≤ l.length by omega,show (l.length:Int) ≤ 1000000000 by omega⟩)) ?_
  simp -dsimp [varsS_one]
  refine AWh_loop (fun i:Nat => i ≤ l.length) (fun i => mkE [(3,.c (.str (varS l.length ++ catN (talF l) i))),(10,.c (.im l.length (flat l))),(11,.c (.int .i64 l.length)),(12,.c (.int .i64 i))] []) (fun i => l.length - i) 0 (Wk_to [3,10,11,12] [] rfl rfl (by simp [catN,app_nil])) (by simp) ?_
  rintro i hi
  have hs:(catN (talF l) i).size ≤ i * 100:=catN_size fun j hj => talS_size (hx j (by omega))
  refine AW_of h179 TryzT_ok (by kernel_rfl) ?_
  rcases Nat.lt_or_ge i l.length with h1 | h1
  · have hr:=hx i h1
    have q1:=shortS_size hr.1; have q2:=varS_size hr.2.1; have q3:=varS_size hr.2.2
    simp -dsimp [h1,ne_of_lt h1]
    repeat (first | refine ⟨by omega,?_⟩ | refine ⟨by simp [capMax,ByteArray.size_append]; omega,?_⟩)
    refine ACallK_of (f298_ok [(nth l i).obj] (by simp) (by intro i hi; match i,hi with | 0,_ => exact Nat.le_trans hr.1 (by decide))) ?_
    simp -dsimp [h1,ne_of_lt h1,shortsS_one,shortsS_two,varsS_one,varsS_two]
    repeat (first | refine ⟨by omega,?_⟩ | refine ⟨by simp [capMax,ByteArray.size_append]; omega,?_⟩)
    refine ACallK_of (f178_ok [(nth l i).rep,(nth l i).sum] (by simp) (by intro i hi; match i,hi with | 0,_ => exact hr.2.1 | 1,_ => exact hr.2.2)) ?_
    simp -dsimp [h1,ne_of_lt h1,shortsS_one,shortsS_two,varsS_one,varsS_two]
    repeat (first | refine ⟨by omega,?_⟩ | refine ⟨by simp [capMax,ByteArray.size_append]; omega,?_⟩)
    exact Back_of (i + 1) [3,10,11,12] [] rfl rfl (by simp [catN,talF,talS,app_assoc]; rw [wrap64 (by omega) (by omega)]) (by omega) (by omega)
  · obtain rfl:i = l.length:=by omega
    simp -dsimp
    rfl
@[simp] def h308:Hts:={ dr:=fun id => if id = 6 then [{ mb:=[22,26,30,34,38] },{},{},{ cr:=true },{ mb:=[26,30,34,38] },{ mb:=[22] },{ mb:=[22] },{ cr:=true },{ mb:=[30,34,38] },{ mb:=[22,26] },{ mb:=[22,26] },{ cr:=true },{ mb:=[34,38] },{ mb:=[22,26,30] },{ mb:=[22,26,30] },{ cr:=true },{ mb:=[38] },{ mb:=[22,26,30,34] },{ mb:=[22,26,30,34] },{ cr:=true },{},{}] else [] }
set_option maxHeartbeats 1000000 in
theorem f308_ok (l:List GLive) (ha:l.length ≤ 120) (hx:∀ i:Nat,i < l.length → liveR (nth l i)):FnR Tryz.prog 308 [.v (.im l.length (flat l))] (.v (.str (livesS l))):=by
  have hv:(varS l.length).size ≤ 5:=varS_five (by omega)
  refine FnW.of_AW TryzT_ok 0 (fn:=Tryz.f308) (by kernel_rfl) rfl (by kernel_rfl) rfl rfl rfl ?_; refine AW_of h308 TryzT_ok (by kernel_rfl) ?_
  simp -dsimp
  refine ACallK_of (f316_ok _ (by omega) (by omega)) ?_
  simp -dsimp
  refine AWh_loop (fun i:Nat => i ≤ l.length) (fun i => mkE [(0,.c (.im l.length (flat l))),(3,.c (.str (varS l.length ++ catN (liveF l) i))),(4,.c (.int .i64 i))] []) (fun i => l.length - i) 0 (Wk_to [0,3,4] [] rfl rfl (by simp [catN,app_nil])) (by simp) ?_
  rintro i hi
  have hs:(catN (liveF l) i).size ≤ i * 100:=catN_size fun j hj => liveS_size (hx j (by omega))
  refine AW_of h308 TryzT_ok (by kernel_rfl) ?_
  rcases Nat.lt_or_ge i l.length with h1 | h1
  · have hr:=hx i h1
    have q1:=shortS_size hr.1; have q2:=shortS_size hr.2.1; have q3:=varS_size hr.2.2.1; have q4:=dotS_size hr.2.2.2; have q5:=flagS_size (nth l i).map
    simp -dsimp [h1,ne_of_lt h1]
    repeat (first | refine ⟨by omega,?_⟩ | refine ⟨by simp [capMax,ByteArray.size_append]; omega,?_⟩)
    refine ACallK_of (f388_ok _) ?_
    simp -dsimp [h1,ne_of_lt h1,shortsS_one,shortsS_two,varsS_one,varsS_two]
    repeat (first | refine ⟨by omega,?_⟩ | refine ⟨by simp [capMax,ByteArray.size_append]; omega,?_⟩)
    refine ACallK_of (f212_ok _ (Nat.le_trans hr.1 (by decide))) ?_
    simp -dsimp [h1,ne_of_lt h1,shortsS_one,shortsS_two,varsS_one,varsS_two]
    repeat (first | refine ⟨by omega,?_⟩ | refine ⟨by simp [capMax,ByteArray.size_append]; omega,?_⟩)
    refine ACallK_of (f212_ok _ (Nat.le_trans hr.2.1 (by decide))) ?_
    simp -dsimp [h1,ne_of_lt h1,shortsS_one,shortsS_two,varsS_one,varsS_two]
    repeat (first | refine ⟨by omega,?_⟩ | refine ⟨by simp [capMax,ByteArray.size_append]; omega,?_⟩)
    refine ACallK_of (f316_ok _ hr.2.2.1.1 hr.2.2.1.2) ?_
    simp -dsimp [h1,ne_of_lt h1,shortsS_one,shortsS_two,varsS_one,varsS_two]
    repeat (first | refine ⟨by omega,?_⟩ | refine ⟨by simp [capMax,ByteArray.size_append]; omega,?_⟩)
    refine ACallK_of (f317_ok _ hr.2.2.2.1 hr.2.2.2.2) ?_
    simp -dsimp [h1,ne_of_lt h1,shortsS_one,shortsS_two,varsS_one,varsS_two]
    repeat (first | refine ⟨by omega,?_⟩ | refine ⟨by simp [capMax,ByteArray.size_append]; omega,?_⟩)
    exact Back_of (i + 1) [0,3,4] [] rfl rfl (by simp [catN,liveF,liveS,app_assoc]; rw [wrap64 (by omega) (by omega)]) (by omega) (by omega)
  · obtain rfl:i = l.length:=by omega
    simp -dsimp
    rfl
@[simp] def h180:Hts:={ dr:=fun id => if id = 5 then [{ mb:=[19,24,25,29,30,34] },{ mb:=[24,29] },{ mb:=[24,29] },{ cr:=true,mb:=[24,29] },{ mb:=[19,29] },{ mb:=[19,29] },{ mb:=[19,29] },{ mb:=[19,29] },{ cr:=true,mb:=[19,29] },{ cr:=true,mb:=[29] },{ mb:=[29,30,34] },{ mb:=[19,24,25] },{ mb:=[19,24,25] },{ cr:=true,mb:=[19,24,25] },{ cr:=true },{ mb:=[34] },{ mb:=[19,24,25,29,30] },{ mb:=[19,24,25,29,30] },{ cr:=true },{},{},{}] else [] }
set_option maxHeartbeats 1000000 in
theorem f180_ok (l:List GLive) (ha:l.length ≤ 120) (hx:∀ i:Nat,i < l.length → liveR (nth l i)):FnR Tryz.prog 180 [.v (.im l.length (flat l))] (.v (.str (livesS l))):=by
  have hv:(varS l.length).size ≤ 5:=varS_five (by omega)
  refine FnW.of_AW TryzT_ok 0 (fn:=Tryz.f180) (by kernel_rfl) rfl (by kernel_rfl) rfl rfl rfl ?_; refine AW_of h180 TryzT_ok (by kernel_rfl) ?_
  simp -dsimp
  refine ACallK_of (f178_ok [(l.length:Int)] (by simp) (by intro i hi; match i,hi with | 0,_ => exact ⟨show (0:Int) ≤ l.length by omega,show (l.length:Int) ≤ 1000000000 by omega⟩)) ?_
  simp -dsimp [varsS_one]
  refine AWh_loop (fun i:Nat => i ≤ l.length) (fun i => mkE [(3,.c (.str (varS l.length ++ catN (liveF l) i))),(10,.c (.im l.length (flat l))),(11,.c (.int .i64 l.length)),(12,.c (.int .i64 i))] []) (fun i => l.length - i) 0 (Wk_to [3,10,11,12] [] rfl rfl (by simp [catN,app_nil])) (by simp) ?_
  rintro i hi
  have hs:(catN (liveF l) i).size ≤ i * 100:=catN_size fun j hj => liveS_size (hx j (by omega))
  refine AW_of h180 TryzT_ok (by kernel_rfl) ?_
  rcases Nat.lt_or_ge i l.length with h1 | h1
  · have hr:=hx i h1
    have q1:=shortS_size hr.1; have q2:=shortS_size hr.2.1; have q3:=varS_size hr.2.2.1; have q4:=dotS_size hr.2.2.2; have q5:=flagS_size (nth l i).map
    simp -dsimp [h1,ne_of_lt h1]
    repeat (first | refine ⟨by omega,?_⟩ | refine ⟨by simp [capMax,ByteArray.size_append]; omega,?_⟩)
    refine ACallK_of (f299_ok _) ?_
    simp -dsimp [h1,ne_of_lt h1,shortsS_one,shortsS_two,varsS_one,varsS_two]
    repeat (first | refine ⟨by omega,?_⟩ | refine ⟨by simp [capMax,ByteArray.size_append]; omega,?_⟩)
    refine ACallK_of (f298_ok [(nth l i).obj,(nth l i).key] (by simp) (by intro i hi; match i,hi with | 0,_ => exact Nat.le_trans hr.1 (by decide) | 1,_ => exact Nat.le_trans hr.2.1 (by decide))) ?_
    simp -dsimp [h1,ne_of_lt h1,shortsS_one,shortsS_two,varsS_one,varsS_two]
    repeat (first | refine ⟨by omega,?_⟩ | refine ⟨by simp [capMax,ByteArray.size_append]; omega,?_⟩)
    refine ACallK_of (f178_ok [(nth l i).val] (by simp) (by intro i hi; match i,hi with | 0,_ => exact hr.2.2.1)) ?_
    simp -dsimp [h1,ne_of_lt h1,shortsS_one,shortsS_two,varsS_one,varsS_two]
    repeat (first | refine ⟨by omega,?_⟩ | refine ⟨by simp [capMax,ByteArray.size_append]; omega,?_⟩)
    refine ACallK_of (f189_ok _ hr.2.2.2.1 hr.2.2.2.2) ?_
    simp -dsimp [h1,ne_of_lt h1,shortsS_one,shortsS_two,varsS_one,varsS_two]
    repeat (first | refine ⟨by omega,?_⟩ | refine ⟨by simp [capMax,ByteArray.size_append]; omega,?_⟩)
    exact Back_of (i + 1) [3,10,11,12] [] rfl rfl (by simp [catN,liveF,liveS,app_assoc]; rw [wrap64 (by omega) (by omega)]) (by omega) (by omega)
  · obtain rfl:i = l.length:=by omega
    simp -dsimp
    rfl
@[simp] def h309:Hts:={ dr:=fun id => if id = 6 then [{ mb:=[22,26,30,34,38,42] },{},{},{ cr:=true },{ mb:=[26,30,34,38,42] },{ mb:=[22] },{ mb:=[22] },{ cr:=true },{ mb:=[30,34,38,42] },{ mb:=[22,26] },{ mb:=[22,26] },{ cr:=true },{ mb:=[34,38,42] },{ mb:=[22,26,30] },{ mb:=[22,26,30] },{ cr:=true },{ mb:=[38,42] },{ mb:=[22,26,30,34] },{ mb:=[22,26,30,34] },{ cr:=true },{ mb:=[42] },{ mb:=[22,26,30,34,38] },{ mb:=[22,26,30,34,38] },{ cr:=true },{},{}] else [] }
set_option maxHeartbeats 1000000 in
theorem f309_ok (l:List GCell) (ha:l.length ≤ 120) (hx:∀ i:Nat,i < l.length → cellR (nth l i)):FnR Tryz.prog 309 [.v (.im l.length (flat l))] (.v (.str (cellsS l))):=by
  have hv:(varS l.length).size ≤ 5:=varS_five (by omega)
  refine FnW.of_AW TryzT_ok 0 (fn:=Tryz.f309) (by kernel_rfl) rfl (by kernel_rfl) rfl rfl rfl ?_; refine AW_of h309 TryzT_ok (by kernel_rfl) ?_
  simp -dsimp
  refine ACallK_of (f316_ok _ (by omega) (by omega)) ?_
  simp -dsimp
  refine AWh_loop (fun i:Nat => i ≤ l.length) (fun i => mkE [(0,.c (.im l.length (flat l))),(3,.c (.str (varS l.length ++ catN (cellF l) i))),(4,.c (.int .i64 i))] []) (fun i => l.length - i) 0 (Wk_to [0,3,4] [] rfl rfl (by simp [catN,app_nil])) (by simp) ?_
  rintro i hi
  have hs:(catN (cellF l) i).size ≤ i * 100:=catN_size fun j hj => cellS_size (hx j (by omega))
  refine AW_of h309 TryzT_ok (by kernel_rfl) ?_
  rcases Nat.lt_or_ge i l.length with h1 | h1
  · have hr:=hx i h1
    have q1:=shortS_size hr.1; have q2:=dotS_size hr.2.1; have q3:=varS_size hr.2.2.1; have q4:=dotS_size hr.2.2.2.1; have q5:=varS_size hr.2.2.2.2; have q6:=flagS_size (nth l i).gone
    simp -dsimp [h1,ne_of_lt h1]
    repeat (first | refine ⟨by omega,?_⟩ | refine ⟨by simp [capMax,ByteArray.size_append]; omega,?_⟩)
    refine ACallK_of (f212_ok _ (Nat.le_trans hr.1 (by decide))) ?_
    simp -dsimp [h1,ne_of_lt h1,shortsS_one,shortsS_two,varsS_one,varsS_two]
    repeat (first | refine ⟨by omega,?_⟩ | refine ⟨by simp [capMax,ByteArray.size_append]; omega,?_⟩)
    refine ACallK_of (f317_ok _ hr.2.1.1 hr.2.1.2) ?_
    simp -dsimp [h1,ne_of_lt h1,shortsS_one,shortsS_two,varsS_one,varsS_two]
    repeat (first | refine ⟨by omega,?_⟩ | refine ⟨by simp [capMax,ByteArray.size_append]; omega,?_⟩)
    refine ACallK_of (f316_ok _ hr.2.2.1.1 hr.2.2.1.2) ?_
    simp -dsimp [h1,ne_of_lt h1,shortsS_one,shortsS_two,varsS_one,varsS_two]
    repeat (first | refine ⟨by omega,?_⟩ | refine ⟨by simp [capMax,ByteArray.size_append]; omega,?_⟩)
    refine ACallK_of (f317_ok _ hr.2.2.2.1.1 hr.2.2.2.1.2) ?_
    simp -dsimp [h1,ne_of_lt h1,shortsS_one,shortsS_two,varsS_one,varsS_two]
    repeat (first | refine ⟨by omega,?_⟩ | refine ⟨by simp [capMax,ByteArray.size_append]; omega,?_⟩)
    refine ACallK_of (f316_ok _ hr.2.2.2.2.1 hr.2.2.2.2.2) ?_
    simp -dsimp [h1,ne_of_lt h1,shortsS_one,shortsS_two,varsS_one,varsS_two]
    repeat (first | refine ⟨by omega,?_⟩ | refine ⟨by simp [capMax,ByteArray.size_append]; omega,?_⟩)
    refine ACallK_of (f388_ok _) ?_
    simp -dsimp [h1,ne_of_lt h1,shortsS_one,shortsS_two,varsS_one,varsS_two]
    repeat (first | refine ⟨by omega,?_⟩ | refine ⟨by simp [capMax,ByteArray.size_append]; omega,?_⟩)
    exact Back_of (i + 1) [0,3,4] [] rfl rfl (by simp [catN,cellF,cellS,app_assoc]; rw [wrap64 (by omega) (by omega)]) (by omega) (by omega)
  · obtain rfl:i = l.length:=by omega
    simp -dsimp
    rfl
@[simp] def h181:Hts:={ dr:=fun id => if id = 5 then [{ mb:=[19,20,23,27,28,32,36,37,41] },{ mb:=[27,36] },{ mb:=[27,36] },{ cr:=true,mb:=[27,36] },{ cr:=true,mb:=[27,36] },{ mb:=[19,20,27,36] },{ mb:=[19,20,27,36] },{ cr:=true,mb:=[27,36] },{ mb:=[27,28,32,36,37,41] },{ mb:=[19,20,23,36] },{ mb:=[19,20,23,36] },{ cr:=true,mb:=[19,20,23,36] },{ cr:=true,mb:=[36] },{ mb:=[32,36,37,41] },{ mb:=[19,20,23,27,28,36] },{ mb:=[19,20,23,27,28,36] },{ cr:=true,mb:=[36] },{ mb:=[36,37,41] },{ mb:=[19,20,23,27,28,32] },{ mb:=[19,20,23,27,28,32] },{ cr:=true,mb:=[19,20,23,27,28,32] },{ cr:=true },{ mb:=[41] },{ mb:=[19,20,23,27,28,32,36,37] },{ mb:=[19,20,23,27,28,32,36,37] },{ cr:=true },{},{},{}] else [] }
set_option maxHeartbeats 1000000 in
theorem f181_ok (l:List GCell) (ha:l.length ≤ 120) (hx:∀ i:Nat,i < l.length → cellR (nth l i)):FnR Tryz.prog 181 [.v (.im l.length (flat l))] (.v (.str (cellsS l))):=by
  have hv:(varS l.length).size ≤ 5:=varS_five (by omega)
  refine FnW.of_AW TryzT_ok 0 (fn:=Tryz.f181) (by kernel_rfl) rfl (by kernel_rfl) rfl rfl rfl ?_; refine AW_of h181 TryzT_ok (by kernel_rfl) ?_
  simp -dsimp
  refine ACallK_of (f178_ok [(l.length:Int)] (by simp) (by intro i hi; match i,hi with | 0,_ => exact ⟨show (0:Int) ≤ l.length by omega,show (l.length:Int) ≤ 1000000000 by omega⟩)) ?_
  simp -dsimp [varsS_one]
  refine AWh_loop (fun i:Nat => i ≤ l.length) (fun i => mkE [(3,.c (.str (varS l.length ++ catN (cellF l) i))),(10,.c (.im l.length (flat l))),(11,.c (.int .i64 l.length)),(12,.c (.int .i64 i))] []) (fun i => l.length - i) 0 (Wk_to [3,10,11,12] [] rfl rfl (by simp [catN,app_nil])) (by simp) ?_
  rintro i hi
  have hs:(catN (cellF l) i).size ≤ i * 100:=catN_size fun j hj => cellS_size (hx j (by omega))
  refine AW_of h181 TryzT_ok (by kernel_rfl) ?_
  rcases Nat.lt_or_ge i l.length with h1 | h1
  · have hr:=hx i h1
    have q1:=shortS_size hr.1; have q2:=dotS_size hr.2.1; have q3:=varS_size hr.2.2.1; have q4:=dotS_size hr.2.2.2.1; have q5:=varS_size hr.2.2.2.2; have q6:=flagS_size (nth l i).gone
    simp -dsimp [h1,ne_of_lt h1]
    repeat (first | refine ⟨by omega,?_⟩ | refine ⟨by simp [capMax,ByteArray.size_append]; omega,?_⟩)
    refine ACallK_of (f298_ok [(nth l i).obj] (by simp) (by intro i hi; match i,hi with | 0,_ => exact Nat.le_trans hr.1 (by decide))) ?_
    simp -dsimp [h1,ne_of_lt h1,shortsS_one,shortsS_two,varsS_one,varsS_two]
    repeat (first | refine ⟨by omega,?_⟩ | refine ⟨by simp [capMax,ByteArray.size_append]; omega,?_⟩)
    refine ACallK_of (f189_ok _ hr.2.1.1 hr.2.1.2) ?_
    simp -dsimp [h1,ne_of_lt h1,shortsS_one,shortsS_two,varsS_one,varsS_two]
    repeat (first | refine ⟨by omega,?_⟩ | refine ⟨by simp [capMax,ByteArray.size_append]; omega,?_⟩)
    refine ACallK_of (f178_ok [(nth l i).time] (by simp) (by intro i hi; match i,hi with | 0,_ => exact hr.2.2.1)) ?_
    simp -dsimp [h1,ne_of_lt h1,shortsS_one,shortsS_two,varsS_one,varsS_two]
    repeat (first | refine ⟨by omega,?_⟩ | refine ⟨by simp [capMax,ByteArray.size_append]; omega,?_⟩)
    refine ACallK_of (f189_ok _ hr.2.2.2.1.1 hr.2.2.2.1.2) ?_
    simp -dsimp [h1,ne_of_lt h1,shortsS_one,shortsS_two,varsS_one,varsS_two]
    repeat (first | refine ⟨by omega,?_⟩ | refine ⟨by simp [capMax,ByteArray.size_append]; omega,?_⟩)
    refine ACallK_of (f178_ok [(nth l i).val] (by simp) (by intro i hi; match i,hi with | 0,_ => exact hr.2.2.2.2)) ?_
    simp -dsimp [h1,ne_of_lt h1,shortsS_one,shortsS_two,varsS_one,varsS_two]
    repeat (first | refine ⟨by omega,?_⟩ | refine ⟨by simp [capMax,ByteArray.size_append]; omega,?_⟩)
    refine ACallK_of (f299_ok _) ?_
    simp -dsimp [h1,ne_of_lt h1,shortsS_one,shortsS_two,varsS_one,varsS_two]
    repeat (first | refine ⟨by omega,?_⟩ | refine ⟨by simp [capMax,ByteArray.size_append]; omega,?_⟩)
    exact Back_of (i + 1) [3,10,11,12] [] rfl rfl (by simp [catN,cellF,cellS,app_assoc]; rw [wrap64 (by omega) (by omega)]) (by omega) (by omega)
  · obtain rfl:i = l.length:=by omega
    simp -dsimp
    rfl
end Am
namespace Am
open Go Go.Proofs
open Cel (cells)
set_option maxRecDepth 100000
theorem nameOk_size {s:ByteArray} (h:nameOk s = true):s.size ≤ 8:=by
  simp [nameOk,spIn] at h; omega
theorem spIn_num {x lo hi:Int} (h:spIn x lo hi = true) (h1:0 ≤ lo) (h2:hi ≤ 1000000000):numOk x:=by
  simp [spIn] at h; exact ⟨by omega,by omega⟩
theorem knowOk_facts {k:List Int} (h:knowOk k = true):k.length = 3 ∧ ∀ i:Nat,i < k.length → numOk (nth k i):=by
  simp [knowOk] at h
  exact ⟨h.1,fun i hi => ⟨(h.2 i hi).1,by have:=(h.2 i hi).2; omega⟩⟩
theorem dotOk_R {d:GDot} (h:dotOk d = true):dotR d:=by
  simp [dotOk] at h
  exact ⟨spIn_num h.1 (by decide) (by decide),spIn_num h.2 (by decide) (by decide)⟩
theorem knows_R {k:List Int} {d:GDot} (h:knows k d = true):dotR d:=by
  simp [knows] at h
  exact dotOk_R h.1.2
theorem talliesOk_facts {l:List GTally} (h:talliesOk l = true):l.length ≤ 120 ∧ ∀ i:Nat,i < l.length → talR (nth l i):=by
  simp only [talliesOk,Bool.and_eq_true,decide_eq_true_eq,allB_iff,talAt,tallyOk] at h
  exact ⟨h.1,fun i hi => ⟨nameOk_size (h.2 i hi).1.1.1,spIn_num (h.2 i hi).1.1.2 (by decide) (by decide),spIn_num (h.2 i hi).1.2 (by decide) (by decide)⟩⟩
theorem livKsOk_facts {l:List GLive} {k:List Int} (h:livKsOk l k = true):l.length ≤ 120 ∧ ∀ i:Nat,i < l.length → liveR (nth l i):=by
  simp only [livKsOk,Bool.and_eq_true,decide_eq_true_eq,allB_iff,livKAt,liveOk] at h
  exact ⟨h.1,fun i hi => ⟨nameOk_size (h.2 i hi).1.2.1.1.1,nameOk_size (h.2 i hi).1.2.1.1.2,spIn_num (h.2 i hi).1.2.1.2 (by decide) (by decide),knows_R (h.2 i hi).1.1⟩⟩
theorem celKsOk_facts {l:List GCell} {k:List Int} (h:celKsOk l k = true) (hr:∀ i:Nat,i < l.length → dotR (nth l i).ref):l.length ≤ 120 ∧ ∀ i:Nat,i < l.length → cellR (nth l i):=by
  simp only [celKsOk,Bool.and_eq_true,decide_eq_true_eq,allB_iff,celKAt,cellOk'] at h
  exact ⟨h.1,fun i hi => ⟨nameOk_size (h.2 i hi).1.2.1.1,knows_R (h.2 i hi).1.1,spIn_num (h.2 i hi).1.2.1.2 (by decide) (by decide),hr i hi,spIn_num (h.2 i hi).1.2.2 (by decide) (by decide)⟩⟩
theorem refZ_R {d:GDot} (h:(d.rep == 0 && d.seq == 0 || dotOk d) = true):dotR d:=by
  simp only [Bool.or_eq_true,Bool.and_eq_true,beq_iff_eq] at h
  rcases h with h | h
  · exact ⟨by rw [h.1]; exact ⟨by decide,by decide⟩,by rw [h.2]; exact ⟨by decide,by decide⟩⟩
  · exact dotOk_R h
theorem deltaOk_facts {d:GDelta} (h:deltaOk d = true) :
    (d.base.length = 3 ∧ ∀ i:Nat,i < d.base.length → numOk (nth d.base i)) ∧ (d.know.length = 3 ∧ ∀ i:Nat,i < d.know.length → numOk (nth d.know i)) ∧
    (d.tallies.length ≤ 120 ∧ ∀ i:Nat,i < d.tallies.length → talR (nth d.tallies i)) ∧ (d.lives.length ≤ 120 ∧ ∀ i:Nat,i < d.lives.length → liveR (nth d.lives i)) ∧
    (d.dead.length ≤ 120 ∧ ∀ i:Nat,i < d.dead.length → dotR (nth d.dead i)) ∧ (d.cs.length ≤ 120 ∧ ∀ i:Nat,i < d.cs.length → cellR (nth d.cs i)):=by
  simp only [deltaOk,Bool.and_eq_true,decide_eq_true_eq] at h
  obtain ⟨⟨⟨⟨⟨⟨⟨h1,h2⟩,h3⟩,h4⟩,h5⟩,h6⟩,h7⟩,h8⟩:=h
  simp only [knowIn,Bool.and_eq_true] at h1
  rw [allB_iff] at h7 h8
  refine ⟨knowOk_facts h1.1.1,knowOk_facts h1.1.2,talliesOk_facts h2,livKsOk_facts h3,⟨h5,fun i hi => ?_⟩,celKsOk_facts h4 fun i hi => refZ_R (h8 i hi)⟩
  have:=h7 i hi
  simp only [eDead,Bool.and_eq_true] at this
  exact knows_R this.1
theorem varsS_size {xs:List Int} (hx:∀ i:Nat,i < xs.length → numOk (nth xs i)):(varsS xs).size ≤ xs.length * 5:=catN_size fun i hi => varS_five (hx i hi).2
theorem talsS_size {l:List GTally} (h:l.length ≤ 120 ∧ ∀ i:Nat,i < l.length → talR (nth l i)):(talsS l).size ≤ 12005:=by
  have h1:=catN_size (f:=talF l) (b:=100) fun i hi => talS_size (h.2 i hi)
  have hv:(varS l.length).size ≤ 5:=varS_five (by omega)
  rw [talsS,ByteArray.size_append]; omega
theorem livesS_size {l:List GLive} (h:l.length ≤ 120 ∧ ∀ i:Nat,i < l.length → liveR (nth l i)):(livesS l).size ≤ 12005:=by
  have h1:=catN_size (f:=liveF l) (b:=100) fun i hi => liveS_size (h.2 i hi)
  have hv:(varS l.length).size ≤ 5:=varS_five (by omega)
  rw [livesS,ByteArray.size_append]; omega
theorem cellsS_size {l:List GCell} (h:l.length ≤ 120 ∧ ∀ i:Nat,i < l.length → cellR (nth l i)):(cellsS l).size ≤ 12005:=by
  have h1:=catN_size (f:=cellF l) (b:=100) fun i hi => cellS_size (h.2 i hi)
  have hv:(varS l.length).size ≤ 5:=varS_five (by omega)
  rw [cellsS,ByteArray.size_append]; omega
def deltaS (d:GDelta):ByteArray:=varsS d.base ++ (varsS d.know ++ (talsS d.tallies ++ (livesS d.lives ++ (dotsS d.dead ++ cellsS d.cs))))
def deltaText (d:GDelta):ByteArray:=if deltaOk d = true then sealS (deltaS d) else ⟨#[]⟩
def deltaTextOk (d:GDelta):Bool:=deltaOk d && sealOk (deltaS d)
@[simp] def h200:Hts:={ dr:=fun id => if id = 3 then [{},{},{ cr:=true },{ mb:=[11] },{ mb:=[11] },{ cr:=true },{ mb:=[18,22,27] },{ mb:=[11,14] },{ mb:=[11,14] },{ cr:=true },{ mb:=[22,27] },{ mb:=[11,14,18] },{ mb:=[11,14,18] },{ cr:=true },{ mb:=[27] },{ mb:=[11,14,18,22] },{ mb:=[11,14,18,22] },{ mb:=[11,14,18,22] },{ cr:=true },{},{}] else [] }
set_option maxHeartbeats 2000000 in
theorem f200_ok (d:GDelta) (hd:d.Ok):FnR Tryz.prog 200 [.agg [.im d.base.length (flat d.base),.im d.know.length (flat d.know),.im d.tallies.length (flat d.tallies),.im d.lives.length (flat d.lives),.im d.dead.length (flat d.dead),.im d.cs.length (flat d.cs)]] (.tup [.v (.str (deltaText d)),.v (.bool (deltaTextOk d))]):=by
  refine FnW.of_AW TryzT_ok 0 (fn:=Tryz.f200) (by kernel_rfl) rfl (by kernel_rfl) rfl rfl rfl ?_; refine AW_of h200 TryzT_ok (by kernel_rfl) ?_
  simp -dsimp
  refine ACallK_of (f71_ok _ hd) ?_
  rw [deltaOkS_eq]
  cases hk:deltaOk d
  · simp -dsimp
    simp [deltaText,deltaTextOk,hk]
  · simp -dsimp
    obtain ⟨⟨b0,b1⟩,⟨k0,k1⟩,t,l,e,c⟩:=deltaOk_facts hk
    have z1:=varsS_size b1
    have z2:=varsS_size k1
    have z3:=talsS_size t
    have z4:=livesS_size l
    have z6:=cellsS_size c
    have zv:(varS d.dead.length).size ≤ 5:=varS_five (by omega)
    have ze:=catN_size (f:=dotF d.dead) (b:=100) fun i hi => Nat.le_trans (dotS_size (e.2 i hi)) (by decide)
    refine ACallK_of (f306_ok _ (by omega) b1) ?_
    simp -dsimp
    repeat (first | refine ⟨by omega,?_⟩ | refine ⟨by simp [capMax,ByteArray.size_append]; omega,?_⟩)
    refine ACallK_of (f306_ok _ (by omega) k1) ?_
    simp -dsimp
    repeat (first | refine ⟨by omega,?_⟩ | refine ⟨by simp [capMax,ByteArray.size_append]; omega,?_⟩)
    refine ACallK_of (f307_ok _ t.1 t.2) ?_
    simp -dsimp
    repeat (first | refine ⟨by omega,?_⟩ | refine ⟨by simp [capMax,ByteArray.size_append]; omega,?_⟩)
    refine ACallK_of (f308_ok _ l.1 l.2) ?_
    simp -dsimp
    repeat (first | refine ⟨by omega,?_⟩ | refine ⟨by simp [capMax,ByteArray.size_append]; omega,?_⟩)
    refine ACallK_of (f316_ok _ (by omega) (by omega)) ?_
    simp -dsimp
    repeat (first | refine ⟨by omega,?_⟩ | refine ⟨by simp [capMax,ByteArray.size_append]; omega,?_⟩)
    refine AWh_loop (fun i:Nat => i ≤ d.dead.length) (fun i => mkE [(1,.box 64 0),(4,.c (.str (varsS d.base ++ varsS d.know ++ talsS d.tallies ++ livesS d.lives ++ varS d.dead.length ++ catN (dotF d.dead) i))),(5,.c (.int .i64 i))] [(64,.box [.c (.im d.base.length (flat d.base)),.c (.im d.know.length (flat d.know)),.c (.im d.tallies.length (flat d.tallies)),.c (.im d.lives.length (flat d.lives)),.c (.im d.dead.length (flat d.dead)),.c (.im d.cs.length (flat d.cs))])]) (fun i => d.dead.length - i) 0 (Wk_to [1,4,5] [(64,64)] rfl rfl (by simp [catN,app_nil])) (by simp) ?_
    rintro i hi
    have hs:(catN (dotF d.dead) i).size ≤ i * 100:=catN_size fun j hj => Nat.le_trans (dotS_size (e.2 j (by omega))) (by decide)
    refine AW_of h200 TryzT_ok (by kernel_rfl) ?_
    rcases Nat.lt_or_ge i d.dead.length with h1 | h1
    · have hr:=e.2 i h1
      have q1:=dotS_size hr
      simp -dsimp [h1,ne_of_lt h1]
      repeat (first | refine ⟨by omega,?_⟩ | refine ⟨by simp [capMax,ByteArray.size_append]; omega,?_⟩)
      refine ACallK_of (f317_ok _ hr.1 hr.2) ?_
      simp -dsimp [h1,ne_of_lt h1]
      repeat (first | refine ⟨by omega,?_⟩ | refine ⟨by simp [capMax,ByteArray.size_append]; omega,?_⟩)
      exact Back_of (i + 1) [1,4,5] [(64,64)] rfl rfl (by simp [catN,dotF,app_assoc]; rw [wrap64 (by omega) (by omega)]) (by omega) (by omega)
    · obtain rfl:i = d.dead.length:=by omega
      simp -dsimp
      refine ACallK_of (f309_ok _ c.1 c.2) ?_
      simp -dsimp
      repeat (first | refine ⟨by omega,?_⟩ | refine ⟨by simp [capMax,ByteArray.size_append]; omega,?_⟩)
      refine ACallK_of (f195_ok _ (by simp [ByteArray.size_append]; omega)) ?_
      simp -dsimp
      simp [deltaText,deltaTextOk,hk,deltaS,dotsS,app_assoc]
@[simp] def h64:Hts:={ dr:=fun id => if id = 9 then [{},{},{ cr:=true },{ mb:=[29] },{ mb:=[29] },{ cr:=true },{ mb:=[36,40,46] },{ mb:=[29,32] },{ mb:=[29,32] },{ cr:=true },{ mb:=[40,46] },{ mb:=[29,32,36] },{ mb:=[29,32,36] },{ cr:=true },{ mb:=[46] },{ mb:=[29,32,36,40,46] },{ mb:=[46] },{ mb:=[29,32,36,40] },{ mb:=[29,32,36,40] },{ cr:=true },{},{ cr:=true },{},{},{},{}] else [] }
set_option maxHeartbeats 2000000 in
theorem f64_ok (d:GDelta) (hd:d.Ok):FnR Tryz.prog 64 [.agg [.im d.base.length (flat d.base),.im d.know.length (flat d.know),.im d.tallies.length (flat d.tallies),.im d.lives.length (flat d.lives),.im d.dead.length (flat d.dead),.im d.cs.length (flat d.cs)]] (.tup [.v (.str (deltaText d)),.v (.bool (deltaTextOk d))]):=by
  refine FnW.of_AW TryzT_ok 0 (fn:=Tryz.f64) (by kernel_rfl) rfl (by kernel_rfl) rfl rfl rfl ?_; refine AW_of h64 TryzT_ok (by kernel_rfl) ?_
  simp -dsimp
  refine ACallK_of (f188_ok _ hd) ?_
  cases hk:deltaOk d
  · simp -dsimp
    simp [deltaText,deltaTextOk,hk]
  · simp -dsimp
    obtain ⟨⟨b0,b1⟩,⟨k0,k1⟩,t,l,e,c⟩:=deltaOk_facts hk
    have z1:=varsS_size b1
    have z2:=varsS_size k1
    have z3:=talsS_size t
    have z4:=livesS_size l
    have z6:=cellsS_size c
    have zv:(varS d.dead.length).size ≤ 5:=varS_five (by omega)
    have ze:=catN_size (f:=dotF d.dead) (b:=100) fun i hi => Nat.le_trans (dotS_size (e.2 i hi)) (by decide)
    refine ACallK_of (f178_ok [(d.dead.length:Int)] (by simp) (by intro i hi; match i,hi with | 0,_ => exact ⟨show (0:Int) ≤ d.dead.length by omega,show (d.dead.length:Int) ≤ 1000000000 by omega⟩)) ?_
    simp -dsimp [varsS_one]
    refine AWh_loop (fun i:Nat => i ≤ d.dead.length) (fun i => mkE [(1,.box 64 0),(4,.c (.str (varS d.dead.length ++ catN (dotF d.dead) i))),(16,.c (.im d.dead.length (flat d.dead))),(17,.c (.int .i64 d.dead.length)),(18,.c (.int .i64 i))] [(64,.box [.c (.im d.base.length (flat d.base)),.c (.im d.know.length (flat d.know)),.c (.im d.tallies.length (flat d.tallies)),.c (.im d.lives.length (flat d.lives)),.c (.im d.dead.length (flat d.dead)),.c (.im d.cs.length (flat d.cs))])]) (fun i => d.dead.length - i) 0 (Wk_to [1,4,16,17,18] [(64,64)] rfl rfl (by simp [catN,app_nil])) (by simp) ?_
    rintro i hi
    have hs:(catN (dotF d.dead) i).size ≤ i * 100:=catN_size fun j hj => Nat.le_trans (dotS_size (e.2 j (by omega))) (by decide)
    refine AW_of h64 TryzT_ok (by kernel_rfl) ?_
    rcases Nat.lt_or_ge i d.dead.length with h1 | h1
    · have hr:=e.2 i h1
      have q1:=dotS_size hr
      simp -dsimp [h1,ne_of_lt h1]
      repeat (first | refine ⟨by omega,?_⟩ | refine ⟨by simp [capMax,ByteArray.size_append]; omega,?_⟩)
      refine ACallK_of (f189_ok _ hr.1 hr.2) ?_
      simp -dsimp [h1,ne_of_lt h1]
      repeat (first | refine ⟨by omega,?_⟩ | refine ⟨by simp [capMax,ByteArray.size_append]; omega,?_⟩)
      exact Back_of (i + 1) [1,4,16,17,18] [(64,64)] rfl rfl (by simp [catN,dotF,app_assoc]; rw [wrap64 (by omega) (by omega)]) (by omega) (by omega)
    · obtain rfl:i = d.dead.length:=by omega
      simp -dsimp
      refine ACallK_of (f178_ok _ (by omega) b1) ?_
      simp -dsimp
      repeat (first | refine ⟨by omega,?_⟩ | refine ⟨by simp [capMax,ByteArray.size_append]; omega,?_⟩)
      refine ACallK_of (f178_ok _ (by omega) k1) ?_
      simp -dsimp
      repeat (first | refine ⟨by omega,?_⟩ | refine ⟨by simp [capMax,ByteArray.size_append]; omega,?_⟩)
      refine ACallK_of (f179_ok _ t.1 t.2) ?_
      simp -dsimp
      repeat (first | refine ⟨by omega,?_⟩ | refine ⟨by simp [capMax,ByteArray.size_append]; omega,?_⟩)
      refine ACallK_of (f180_ok _ l.1 l.2) ?_
      simp -dsimp
      repeat (first | refine ⟨by omega,?_⟩ | refine ⟨by simp [capMax,ByteArray.size_append]; omega,?_⟩)
      refine ACallK_of (f181_ok _ c.1 c.2) ?_
      simp -dsimp
      repeat (first | refine ⟨by omega,?_⟩ | refine ⟨by simp [capMax,ByteArray.size_append]; omega,?_⟩)
      refine ACallK_of (f177_ok _ (by simp [ByteArray.size_append]; omega)) ?_
      simp -dsimp
      simp [deltaText,deltaTextOk,hk,deltaS,dotsS,app_assoc]
end Am
namespace Am
open Go Go.Proofs
open Cel (cells)
set_option maxRecDepth 100000
theorem varsS_three (a b c:Int):varsS [a,b,c] = varS a ++ (varS b ++ varS c):=by
  show catN _ 3 = _
  rw [catN,catN,catN,catN,nil_app,app_assoc]; rfl
def actS (a:GAct):ByteArray:=dotS a.dot ++ (varS a.time ++ (varsS a.knew ++ (varS a.kind ++ (shortS a.obj ++ (shortS a.key ++ (varS a.val ++ dotS a.ref))))))
def actT (a:GAct):ByteArray:=if actOk a = true then actS a else ⟨#[]⟩
structure ActR (a:GAct):Prop where
  dot:dotR a.dot
  time:numOk a.time
  knew:a.knew.length = 3 ∧ ∀ i:Nat,i < a.knew.length → numOk (nth a.knew i)
  kind:numOk a.kind
  obj:a.obj.size ≤ 8
  key:a.key.size ≤ 8
  val:numOk a.val
  ref:dotR a.ref
theorem refZ_dot {d:GDot} (h:refZ d = true):dotR d:=refZ_R (by simp only [refZ] at h; simp [h])
theorem actOk_R {a:GAct} (h:actOk a = true):ActR a:=by
  simp only [actOk,Bool.and_eq_true] at h
  obtain ⟨⟨⟨⟨⟨h1,h2⟩,h3⟩,h4⟩,h5⟩,h6⟩:=h
  simp only [plain,Bool.and_eq_true,Bool.or_eq_true] at h5
  obtain ⟨⟨⟨p1,p2⟩,p3⟩,p4⟩:=h5
  refine ⟨dotOk_R h1,spIn_num h4 (by decide) (by decide),knowOk_facts h2,spIn_num p1 (by decide) (by decide),nameOk_size p2,?_,?_,?_⟩
  · split at p3
    · exact nameOk_size p3
    · simp only [decide_eq_true_eq] at p3
      have:a.key = ⟨#[]⟩:=str_nil.1 p3
      rw [this]; decide
  · rcases p4 with p4 | p4
    · simp only [beq_iff_eq] at p4
      rw [p4]; exact ⟨by decide,by decide⟩
    · exact spIn_num p4.2 (by decide) (by decide)
  · unfold actRef at h6
    split at h6
    · exact knows_R h6
    · split at h6
      · simp only [Bool.or_eq_true] at h6
        rcases h6 with h6 | h6
        · exact refZ_dot h6
        · exact knows_R h6
      · exact refZ_dot h6
theorem actS_size {a:GAct} (h:ActR a):(actS a).size ≤ 100:=by
  have:=dotS_size h.dot
  have:=varS_size h.time
  have:=varsS_size h.knew.2
  have:=h.knew.1
  have:=varS_size h.kind
  have:=shortS_size h.obj
  have:=shortS_size h.key
  have:=varS_size h.val
  have:=dotS_size h.ref
  simp only [actS,ByteArray.size_append]; omega
@[simp] def h213:Hts:={ mergeF:=fun _ => false,dr:=fun id => if id = 3 then [{},{},{ cr:=true },{ mb:=[9] },{ mb:=[9] },{ cr:=true },{ mb:=[16,20,24,28,32,36] },{ mb:=[9,12] },{ mb:=[9,12] },{ cr:=true },{ mb:=[20,24,28,32,36] },{ mb:=[9,12,16] },{ mb:=[9,12,16] },{ cr:=true },{ mb:=[24,28,32,36] },{ mb:=[9,12,16,20] },{ mb:=[9,12,16,20] },{ cr:=true },{ mb:=[28,32,36] },{ mb:=[9,12,16,20,24] },{ mb:=[9,12,16,20,24] },{ cr:=true },{ mb:=[32,36] },{ mb:=[9,12,16,20,24,28] },{ mb:=[9,12,16,20,24,28] },{ cr:=true },{ mb:=[36] },{ mb:=[9,12,16,20,24,28,32] },{ mb:=[9,12,16,20,24,28,32] },{ cr:=true },{},{},{}] else [] }
set_option maxHeartbeats 2000000 in
theorem f213_ok (a:GAct) (h:a.Ok):FnR Tryz.prog 213 [.agg [.int .i64 a.dot.rep,.int .i64 a.dot.seq,.int .i64 a.time,.im a.knew.length (flat a.knew),.int .i64 a.kind,.str a.obj,.str a.key,.int .i64 a.val,.int .i64 a.ref.rep,.int .i64 a.ref.seq]] (.tup [.v (.str (actT a)),.v (.bool (actOk a))]):=by
  refine FnW.of_AW TryzT_ok 0 (fn:=Tryz.f213) (by kernel_rfl) rfl (by kernel_rfl) rfl rfl rfl ?_; refine AW_of h213 TryzT_ok (by kernel_rfl) ?_
  simp -dsimp
  refine ACallK_of (f163_ok _ h) ?_
  cases g:actOk a
  · simp -dsimp
    simp [actT,g]
  simp -dsimp
  have r:=actOk_R g
  have q1:=dotS_size r.dot
  have q2:=varS_size r.time
  have q3:=varsS_size r.knew.2
  have q4:=r.knew.1
  have q5:=varS_size r.kind
  have q6:=shortS_size r.obj
  have q7:=shortS_size r.key
  have q8:=varS_size r.val
  have q9:=dotS_size r.ref
  have t1:=varS_size r.dot.1
  have t2:=varS_size r.dot.2
  have t3:=varS_size r.ref.1
  have t4:=varS_size r.ref.2
  refine ACallK_of (f317_ok _ r.dot.1 r.dot.2) ?_
  simp -dsimp [shortsS_one,shortsS_two,varsS_one,varsS_two,varsS_three]
  repeat (first | refine ⟨by omega,?_⟩ | refine ⟨by simp [capMax,ByteArray.size_append]; omega,?_⟩)
  refine ACallK_of (f316_ok _ r.time.1 r.time.2) ?_
  simp -dsimp [shortsS_one,shortsS_two,varsS_one,varsS_two,varsS_three]
  repeat (first | refine ⟨by omega,?_⟩ | refine ⟨by simp [capMax,ByteArray.size_append]; omega,?_⟩)
  refine ACallK_of (f306_ok _ (by omega) r.knew.2) ?_
  simp -dsimp [shortsS_one,shortsS_two,varsS_one,varsS_two,varsS_three]
  repeat (first | refine ⟨by omega,?_⟩ | refine ⟨by simp [capMax,ByteArray.size_append]; omega,?_⟩)
  refine ACallK_of (f316_ok _ r.kind.1 r.kind.2) ?_
  simp -dsimp [shortsS_one,shortsS_two,varsS_one,varsS_two,varsS_three]
  repeat (first | refine ⟨by omega,?_⟩ | refine ⟨by simp [capMax,ByteArray.size_append]; omega,?_⟩)
  refine ACallK_of (f212_ok _ (Nat.le_trans r.obj (by decide))) ?_
  simp -dsimp [shortsS_one,shortsS_two,varsS_one,varsS_two,varsS_three]
  repeat (first | refine ⟨by omega,?_⟩ | refine ⟨by simp [capMax,ByteArray.size_append]; omega,?_⟩)
  refine ACallK_of (f212_ok _ (Nat.le_trans r.key (by decide))) ?_
  simp -dsimp [shortsS_one,shortsS_two,varsS_one,varsS_two,varsS_three]
  repeat (first | refine ⟨by omega,?_⟩ | refine ⟨by simp [capMax,ByteArray.size_append]; omega,?_⟩)
  refine ACallK_of (f316_ok _ r.val.1 r.val.2) ?_
  simp -dsimp [shortsS_one,shortsS_two,varsS_one,varsS_two,varsS_three]
  repeat (first | refine ⟨by omega,?_⟩ | refine ⟨by simp [capMax,ByteArray.size_append]; omega,?_⟩)
  refine ACallK_of (f317_ok _ r.ref.1 r.ref.2) ?_
  simp -dsimp [shortsS_one,shortsS_two,varsS_one,varsS_two,varsS_three]
  repeat (first | refine ⟨by omega,?_⟩ | refine ⟨by simp [capMax,ByteArray.size_append]; omega,?_⟩)
  simp [actT,g,actS,app_assoc]
@[simp] def h209:Hts:={ mergeF:=fun _ => false,dr:=fun id => if id = 3 then [{},{},{},{},{},{},{},{},{ cr:=true },{ cr:=true },{ mb:=[16,17] },{ mb:=[16,17] },{ cr:=true },{},{}] else if id = 4 then [{ mb:=[25,26,32,33,43,44] },{ mb:=[32,43] },{ mb:=[32,43] },{ cr:=true,mb:=[32,43] },{ cr:=true,mb:=[32,43] },{ mb:=[32,33,43,44] },{ mb:=[25,26,43] },{ mb:=[25,26,43] },{ mb:=[25,26,43] },{ mb:=[25,26,43] },{ cr:=true,mb:=[25,26,43] },{ cr:=true,mb:=[43] },{ mb:=[43,44] },{ mb:=[25,26,32,33] },{ mb:=[25,26,32,33] },{ mb:=[25,26,32,33] },{ mb:=[25,26,32,33] },{ mb:=[25,26,32,33] },{ mb:=[25,26,32,33] },{ mb:=[25,26,32,33] },{ mb:=[25,26,32,33] },{ cr:=true,mb:=[25,26,32,33] },{ cr:=true },{},{},{}] else [] }
set_option maxHeartbeats 2000000 in
theorem f209_ok (a:GAct) (h:a.Ok):FnR Tryz.prog 209 [.agg [.int .i64 a.dot.rep,.int .i64 a.dot.seq,.int .i64 a.time,.im a.knew.length (flat a.knew),.int .i64 a.kind,.str a.obj,.str a.key,.int .i64 a.val,.int .i64 a.ref.rep,.int .i64 a.ref.seq]] (.tup [.v (.str (actT a)),.v (.bool (actOk a))]):=by
  refine FnW.of_AW TryzT_ok 0 (fn:=Tryz.f209) (by kernel_rfl) rfl (by kernel_rfl) rfl rfl rfl ?_; refine AW_of h209 TryzT_ok (by kernel_rfl) ?_
  simp -dsimp
  refine ACallK_of (f158_ok _ h) ?_
  cases g:actOk a
  · simp -dsimp
    simp [actT,g]
  simp -dsimp
  have r:=actOk_R g
  have q1:=dotS_size r.dot
  have q2:=varS_size r.time
  have q3:=varsS_size r.knew.2
  have q4:=r.knew.1
  have q5:=varS_size r.kind
  have q6:=shortS_size r.obj
  have q7:=shortS_size r.key
  have q8:=varS_size r.val
  have q9:=dotS_size r.ref
  have t1:=varS_size r.dot.1
  have t2:=varS_size r.dot.2
  have t3:=varS_size r.ref.1
  have t4:=varS_size r.ref.2
  refine ACallK_of (f178_ok [a.dot.rep,a.dot.seq,a.time] (by simp) (by intro i hi; match i,hi with | 0,_ => exact r.dot.1 | 1,_ => exact r.dot.2 | 2,_ => exact r.time)) ?_
  simp -dsimp [shortsS_one,shortsS_two,varsS_one,varsS_two,varsS_three]
  repeat (first | refine ⟨by omega,?_⟩ | refine ⟨by simp [capMax,ByteArray.size_append]; omega,?_⟩)
  refine ACallK_of (f178_ok _ (by omega) r.knew.2) ?_
  simp -dsimp [shortsS_one,shortsS_two,varsS_one,varsS_two,varsS_three]
  repeat (first | refine ⟨by omega,?_⟩ | refine ⟨by simp [capMax,ByteArray.size_append]; omega,?_⟩)
  refine ACallK_of (f178_ok [a.kind] (by simp) (by intro i hi; match i,hi with | 0,_ => exact r.kind)) ?_
  simp -dsimp [shortsS_one,shortsS_two,varsS_one,varsS_two,varsS_three]
  repeat (first | refine ⟨by omega,?_⟩ | refine ⟨by simp [capMax,ByteArray.size_append]; omega,?_⟩)
  refine ACallK_of (f298_ok [a.obj,a.key] (by simp) (by intro i hi; match i,hi with | 0,_ => exact Nat.le_trans r.obj (by decide) | 1,_ => exact Nat.le_trans r.key (by decide))) ?_
  simp -dsimp [shortsS_one,shortsS_two,varsS_one,varsS_two,varsS_three]
  repeat (first | refine ⟨by omega,?_⟩ | refine ⟨by simp [capMax,ByteArray.size_append]; omega,?_⟩)
  refine ACallK_of (f178_ok [a.val,a.ref.rep,a.ref.seq] (by simp) (by intro i hi; match i,hi with | 0,_ => exact r.val | 1,_ => exact r.ref.1 | 2,_ => exact r.ref.2)) ?_
  simp -dsimp [shortsS_one,shortsS_two,varsS_one,varsS_two,varsS_three]
  repeat (first | refine ⟨by omega,?_⟩ | refine ⟨by simp [capMax,ByteArray.size_append]; omega,?_⟩)
  simp [actT,g,actS,dotS,app_assoc]
theorem shortBig (s:ByteArray) (hs:20000 < s.size):FnR Tryz.prog 210 [.v (.str s)] (.tup [.v (.str (⟨#[]⟩)),.v (.bool false)]):=by
  have hi:(20000:Int) < s.size:=by omega
  have hj:¬ (s.size:Int) ≤ 20000:=by omega
  refine FnW.of_AW TryzT_ok 0 (fn:=Tryz.f210) (by kernel_rfl) rfl (by kernel_rfl) rfl rfl rfl ?_; refine AW_of h210 TryzT_ok (by kernel_rfl) ?_
  simp -dsimp [hi,hj]
def unitS (u:GUnit):ByteArray:=if u.batch = true then (⟨#[1]⟩:ByteArray) ++ shortS (deltaText u.delta) else (⟨#[0]⟩:ByteArray) ++ actS u.act
def unitTOk (u:GUnit):Bool:=unitOk u && (!u.batch || deltaTextOk u.delta)
def unitText (u:GUnit):ByteArray:=if unitTOk u = true then sealS (unitS u) else ⟨#[]⟩
def unitTextOk (u:GUnit):Bool:=unitTOk u && sealOk (unitS u)
theorem deltaText_size (d:GDelta):(deltaText d).size ≤ 20004:=by
  unfold deltaText sealS
  split
  · split
    · have:=fourS_size (sumOf (deltaS d))
      rw [ByteArray.size_append]; omega
    · decide
  · decide
theorem one_size:(⟨#[1]⟩:ByteArray).size = 1:=rfl
theorem nought_size:(⟨#[0]⟩:ByteArray).size = 1:=rfl
theorem unitOk_actE {u:GUnit} (h:unitOk u = true) (hb:u.batch = false):actOk u.act = true:=by
  simp only [unitOk,hb] at h
  simp at h
  exact h.1
@[simp] def h75:Hts:={ mergeF:=fun _ => false }
set_option maxHeartbeats 2000000 in
theorem f75_ok (u:GUnit) (h:u.Ok):FnR Tryz.prog 75 [.agg [.bool u.batch,.int .i64 u.act.dot.rep,.int .i64 u.act.dot.seq,.int .i64 u.act.time,.im u.act.knew.length (flat u.act.knew),.int .i64 u.act.kind,.str u.act.obj,.str u.act.key,.int .i64 u.act.val,.int .i64 u.act.ref.rep,.int .i64 u.act.ref.seq,.im u.delta.base.length (flat u.delta.base),.im u.delta.know.length (flat u.delta.know),.im u.delta.tallies.length (flat u.delta.tallies),.im u.delta.lives.length (flat u.delta.lives),.im u.delta.dead.length (flat u.delta.dead),.im u.delta.cs.length (flat u.delta.cs)]] (.tup [.v (.str (unitText u)),.v (.bool (unitTextOk u))]):=by
  have h':=h
  simp only [GUnit.Ok] at h'
  refine FnW.of_AW TryzT_ok 0 (fn:=Tryz.f75) (by kernel_rfl) rfl (by kernel_rfl) rfl rfl rfl ?_; refine AW_of h75 TryzT_ok (by kernel_rfl) ?_
  simp -dsimp
  refine ACallK_of (f211_ok _ h) ?_
  cases g:unitOk u
  · simp -dsimp
    simp [unitText,unitTextOk,unitTOk,g]
  cases hb:u.batch
  · simp -dsimp [hb]
    have ga:=unitOk_actE g hb
    have r:=actOk_R ga
    have z:=actS_size r
    refine ACallK_of (f213_ok _ h'.1) ?_
    simp -dsimp [actT,ga,one_size,nought_size]
    repeat (first | refine ⟨by simp [capMax,ByteArray.size_append,one_size,nought_size]; omega,?_⟩)
    refine ACallK_of (f195_ok _ (by simp [ByteArray.size_append,one_size,nought_size]; omega)) ?_
    simp -dsimp
    simp [unitText,unitTextOk,unitTOk,g,hb,unitS]
  · have hsz:=deltaText_size u.delta
    have hv:(varS (deltaText u.delta).size).size ≤ 5:=varS_five (by omega)
    have hss:(shortS (deltaText u.delta)).size ≤ 20009:=by rw [shortS,ByteArray.size_append]; omega
    simp -dsimp [hb]
    refine ACallK_of (f200_ok _ h'.2) ?_
    cases gd:deltaTextOk u.delta
    · simp -dsimp
      simp [unitText,unitTextOk,unitTOk,g,hb,gd]
    · simp -dsimp
      refine ACallK_of (f212_ok _ (by omega)) ?_
      simp -dsimp
      repeat (first | refine ⟨by simp [capMax,ByteArray.size_append,one_size,nought_size]; omega,?_⟩)
      refine ACallK_of (f195_ok _ (by simp [ByteArray.size_append,one_size,nought_size]; omega)) ?_
      simp -dsimp
      simp [unitText,unitTextOk,unitTOk,g,hb,gd,unitS]
@[simp] def h74:Hts:={ mergeF:=fun _ => false }
set_option maxHeartbeats 2000000 in
theorem f74_ok (u:GUnit) (h:u.Ok):FnR Tryz.prog 74 [.agg [.bool u.batch,.int .i64 u.act.dot.rep,.int .i64 u.act.dot.seq,.int .i64 u.act.time,.im u.act.knew.length (flat u.act.knew),.int .i64 u.act.kind,.str u.act.obj,.str u.act.key,.int .i64 u.act.val,.int .i64 u.act.ref.rep,.int .i64 u.act.ref.seq,.im u.delta.base.length (flat u.delta.base),.im u.delta.know.length (flat u.delta.know),.im u.delta.tallies.length (flat u.delta.tallies),.im u.delta.lives.length (flat u.delta.lives),.im u.delta.dead.length (flat u.delta.dead),.im u.delta.cs.length (flat u.delta.cs)]] (.tup [.v (.str (unitText u)),.v (.bool (unitTextOk u))]):=by
  have h':=h
  simp only [GUnit.Ok] at h'
  refine FnW.of_AW TryzT_ok 0 (fn:=Tryz.f74) (by kernel_rfl) rfl (by kernel_rfl) rfl rfl rfl ?_; refine AW_of h74 TryzT_ok (by kernel_rfl) ?_
  simp -dsimp
  refine ACallK_of (f208_ok _ h) ?_
  cases g:unitOk u
  · simp -dsimp
    simp [unitText,unitTextOk,unitTOk,g]
  cases hb:u.batch
  · simp -dsimp [hb]
    have ga:=unitOk_actE g hb
    have r:=actOk_R ga
    have z:=actS_size r
    refine ACallK_of (f209_ok _ h'.1) ?_
    simp -dsimp [actT,ga,one_size,nought_size]
    repeat (first | refine ⟨by simp [capMax,ByteArray.size_append,one_size,nought_size]; omega,?_⟩)
    refine ACallK_of (f177_ok _ (by simp [ByteArray.size_append,one_size,nought_size]; omega)) ?_
    simp -dsimp
    simp [unitText,unitTextOk,unitTOk,g,hb,unitS]
  · have hsz:=deltaText_size u.delta
    have hv:(varS (deltaText u.delta).size).size ≤ 5:=varS_five (by omega)
    have hss:(shortS (deltaText u.delta)).size ≤ 20009:=by rw [shortS,ByteArray.size_append]; omega
    simp -dsimp [hb]
    refine ACallK_of (f64_ok _ h'.2) ?_
    cases gd:deltaTextOk u.delta
    · simp -dsimp
      simp [unitText,unitTextOk,unitTOk,g,hb,gd]
    · simp -dsimp
      rcases Nat.lt_or_ge 20000 (deltaText u.delta).size with big | big
      · refine ACallK_of (shortBig _ big) ?_
        simp -dsimp
        have hno:¬ (unitS u).size ≤ 20000:=by
          simp only [unitS,hb,if_true,shortS,ByteArray.size_append]; omega
        simp [unitText,unitTextOk,unitTOk,g,hb,gd,sealS,sealOk,hno]
      · refine ACallK_of (f210_ok _ big) ?_
        simp -dsimp
        repeat (first | refine ⟨by simp [capMax,ByteArray.size_append,one_size,nought_size]; omega,?_⟩)
        refine ACallK_of (f177_ok _ (by simp [ByteArray.size_append,one_size,nought_size]; omega)) ?_
        simp -dsimp
        simp [unitText,unitTextOk,unitTOk,g,hb,gd,unitS]
end Am
