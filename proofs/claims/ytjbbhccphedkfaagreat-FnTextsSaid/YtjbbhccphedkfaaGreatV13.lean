/- Drawn: states put together,what changed. No condition. -/
import Derived.Test.YtjbbhccphedkfaaGreatT
import Derived.Test.YtjbbhccphedkfaaGreatD
import Derived.Test.YtjbbhccphedkfaaGreatV4
import Derived.Test.YtjbbhccphedkfaaGreatE62
import Derived.Test.YtjbbhccphedkfaaGreatE2
import Derived.Test.YtjbbhccphedkfaaGreatAm29
import Derived.Test.YtjbbhccphedkfaaGreatAm32
import Derived.Test.YtjbbhccphedkfaaGreatAm31
set_option linter.unusedSimpArgs false
set_option linter.unusedVariables false
set_option linter.unnecessarySimpa false
set_option linter.unusedSectionVars false
namespace Am
open Go Go.Proofs
open Cel (cells)
set_option maxRecDepth 100000
def dltD (c:GCur):GDelta × GCur:=((deltaOf (twoP c).1 (twoA c).1).1,(twoB c).2)
@[simp] def h111:Hts:={ merge:=fun _ => false,mergeF:=fun _ => false,lend:=fun f => if f = 163 then [.box []] else [] }
theorem f111_ok (c:GCur) (hc:c.Ok):FnW Tryz.prog 111 [.ptr [.im c.b.length (flat c.b),.int .i64 c.i,.int .i64 c.h]] (.agg [.ow 3 1 ((dltD c).1).base.length (flat ((dltD c).1).base),.ow 3 1 ((dltD c).1).know.length (flat ((dltD c).1).know),.ow 104 3 ((dltD c).1).tallies.length (flat ((dltD c).1).tallies),.ow 98 6 ((dltD c).1).lives.length (flat ((dltD c).1).lives),.ow 60 2 ((dltD c).1).dead.length (flat ((dltD c).1).dead),.ow 100 8 ((dltD c).1).cs.length (flat ((dltD c).1).cs)]) [.ptr [.im ((dltD c).2).b.length (flat ((dltD c).2).b),.int .i64 ((dltD c).2).i,.int .i64 ((dltD c).2).h]]:=by
  refine FnW.of_AW TryzT_ok 1 (fn:=Tryz.f111) (by kernel_rfl) rfl (by kernel_rfl) rfl rfl rfl ?_; refine AW_of h111 TryzT_ok (by kernel_rfl) ?_
  simp -dsimp
  refine ACallW_go ?_
  refine ACallC_go (fun us => f163_ok c hc) ?_
  simp -dsimp
  refine ACallK_of (f164_ok (twoP c).1 (twoA c).1 (sok_Ok (twoP_sok c)) (sok_Ok (twoA_sok hc))) ?_
  simp -dsimp
  simp [dltD]
theorem knowOk_three {k:List Int} (h:knowOk k = true):k.length = 3:=by
  simp only [knowOk,Bool.and_eq_true,decide_eq_true_eq] at h
  exact h.1
theorem dlt_len {p c:GState} (hp:SOK p) (hc:SOK c):(deltaOf p c).1.base.length ≤ 120 ∧ (deltaOf p c).1.know.length ≤ 120 ∧ (deltaOf p c).1.tallies.length ≤ 120 ∧ (deltaOf p c).1.lives.length ≤ 120 ∧ (deltaOf p c).1.dead.length ≤ 120 ∧ (deltaOf p c).1.cs.length ≤ 120:=by
  have h1:=dTal_len p c c.tallies.length
  have h2:=dLivs_len p c c.lives.length
  have h3:=deadK_len c p.lives p.lives.length
  have h4:=dCels_len p c c.cs.length
  have k1:=knowOk_three hp.k
  have k2:=knowOk_three hc.k
  have z1:=hc.t1
  have z2:=hc.l1
  have z3:=hc.c1
  have z4:=hp.l1
  unfold deltaOf
  split
  · simp only [deltaRaw]; omega
  · simp [noDelta]
def dltM (k y:Int) (d:GDelta):GDelta :=
  if k = 0 then { d with know:=[y.tmod 4,y.tmod 3,y.tmod 5] }
  else if k = 1 then { d with dead:=d.dead ++ [⟨y.tmod 4,y.tmod 5⟩] }
  else if k = 2 then { d with lives:=d.lives ++ [⟨false,tA,tX,0,⟨2,y.tmod 6⟩⟩] }
  else if k = 3 then { d with base:=[] }
  else if k = 4 then { d with cs:=d.cs ++ [⟨tA,⟨2,1 + y.tmod 5⟩,y.tmod 4,⟨1,y.tmod 3⟩,0,false⟩] }
  else d
def anyDl (c:GCur):GDelta × GCur:=(dltM (curN c 12).1 (curN (curN c 12).2 60).1 (dltD (curN (curN c 12).2 60).2).1,(dltD (curN (curN c 12).2 60).2).2)
theorem anyDl_ok {c:GCur} (h:c.Ok):(anyDl c).2.Ok:=twoB_ok (curN_ok (curN_ok h _) _)
theorem dltM_Ok (k y:Int) {d:GDelta} (h:d.Ok) (hl:d.base.length ≤ 120 ∧ d.know.length ≤ 120 ∧ d.tallies.length ≤ 120 ∧ d.lives.length ≤ 120 ∧ d.dead.length ≤ 120 ∧ d.cs.length ≤ 120):(dltM k y d).Ok:=by
  have sA:tA.size ≤ 1073741824:=by decide
  have sX:tX.size ≤ 1073741824:=by decide
  simp only [GDelta.Ok] at h ⊢
  obtain ⟨o0,o1,o2,o3,o4,o5,o6,o7,o8⟩:=h
  unfold dltM
  split
  · exact ⟨o0,by simp,o2,o3,o4,o5,o6,o7,o8⟩
  split
  · exact ⟨o0,o1,o2,o3,o4,o5,by simp only [List.length_append,List.length_singleton]; omega,o7,o8⟩
  split
  · refine ⟨o0,o1,o2,o3,by simp only [List.length_append,List.length_singleton]; omega,fun z hz => ?_,o6,o7,o8⟩
    rcases List.mem_append.1 hz with hz | hz
    · exact o5 z hz
    · rw [List.mem_singleton.1 hz]; simp only [GLive.Ok]; exact ⟨sA,sX⟩
  split
  · exact ⟨by simp,o1,o2,o3,o4,o5,o6,o7,o8⟩
  split
  · refine ⟨o0,o1,o2,o3,o4,o5,o6,by simp only [List.length_append,List.length_singleton]; omega,fun z hz => ?_⟩
    rcases List.mem_append.1 hz with hz | hz
    · exact o8 z hz
    · rw [List.mem_singleton.1 hz]; simp only [GCell.Ok]; exact sA
  · exact ⟨o0,o1,o2,o3,o4,o5,o6,o7,o8⟩
theorem anyDl_Ok {c:GCur} (h:c.Ok):(anyDl c).1.Ok:=by
  have c2:(curN (curN c 12).2 60).2.Ok:=curN_ok (curN_ok h _) _
  have p:=twoP_sok (curN (curN c 12).2 60).2
  have a:=twoA_sok c2
  exact dltM_Ok _ _ (deltaOf_ok (sok_Ok p) (sok_Ok a)) (dlt_len p a)
@[simp] def h45:Hts:={ merge:=fun _ => false,mergeF:=fun _ => false,lend:=fun f => if f = 50 || f = 111 then [.box []] else [] }
set_option maxHeartbeats 8000000 in
theorem f45_ok (c:GCur) (hc:c.Ok):FnW Tryz.prog 45 [.ptr [.im c.b.length (flat c.b),.int .i64 c.i,.int .i64 c.h]] (.agg [.ow 3 1 ((anyDl c).1).base.length (flat ((anyDl c).1).base),.ow 3 1 ((anyDl c).1).know.length (flat ((anyDl c).1).know),.ow 104 3 ((anyDl c).1).tallies.length (flat ((anyDl c).1).tallies),.ow 98 6 ((anyDl c).1).lives.length (flat ((anyDl c).1).lives),.ow 60 2 ((anyDl c).1).dead.length (flat ((anyDl c).1).dead),.ow 100 8 ((anyDl c).1).cs.length (flat ((anyDl c).1).cs)]) [.ptr [.im ((anyDl c).2).b.length (flat ((anyDl c).2).b),.int .i64 ((anyDl c).2).i,.int .i64 ((anyDl c).2).h]]:=by
  have hk:=curN_bd c (n:=12) (by decide)
  have hy:=curN_bd (curN c 12).2 (n:=60) (by decide)
  have c2:(curN (curN c 12).2 60).2.Ok:=curN_ok (curN_ok hc _) _
  have p:=twoP_sok (curN (curN c 12).2 60).2
  have a:=twoA_sok c2
  have hO:(dltD (curN (curN c 12).2 60).2).1.Ok:=deltaOf_ok (sok_Ok p) (sok_Ok a)
  have hL:(dltD (curN (curN c 12).2 60).2).1.base.length ≤ 120 ∧ (dltD (curN (curN c 12).2 60).2).1.know.length ≤ 120 ∧ (dltD (curN (curN c 12).2 60).2).1.tallies.length ≤ 120 ∧ (dltD (curN (curN c 12).2 60).2).1.lives.length ≤ 120 ∧ (dltD (curN (curN c 12).2 60).2).1.dead.length ≤ 120 ∧ (dltD (curN (curN c 12).2 60).2).1.cs.length ≤ 120:=dlt_len p a
  have d1:(anyDl c).1 = dltM (curN c 12).1 (curN (curN c 12).2 60).1 (dltD (curN (curN c 12).2 60).2).1:=rfl
  have d2:(anyDl c).2 = (dltD (curN (curN c 12).2 60).2).2:=rfl
  rw [d1,d2]
  refine FnW.of_AW TryzT_ok 1 (fn:=Tryz.f45) (by kernel_rfl) rfl (by kernel_rfl) rfl rfl rfl ?_; refine AW_of h45 TryzT_ok (by kernel_rfl) ?_
  simp -dsimp
  refine ACallW_go ?_
  refine ACallC_go (fun us => f50_ok c hc 12) ?_
  simp -dsimp
  refine ACallW_go ?_
  refine ACallC_go (fun us => f50_ok (curN c 12).2 (curN_ok hc _) 60) ?_
  simp -dsimp
  refine ACallW_go ?_
  refine ACallC_go (fun us => f111_ok (curN (curN c 12).2 60).2 c2) ?_
  simp -dsimp
  refine ACallK_of (f110_ok (dltD (curN (curN c 12).2 60).2).1 hO) ?_
  generalize (dltD (curN (curN c 12).2 60).2).1 = d at *
  generalize (dltD (curN (curN c 12).2 60).2).2 = c1 at *
  generalize (curN (curN c 12).2 60).1 = y at *
  generalize (curN c 12).1 = k at *
  by_cases k0:k = 0
  · subst k0
    simp -dsimp
    simp [dltM]
    rfl
  by_cases k1:k = 1
  · subst k1
    simp -dsimp
    repeat (first|refine ⟨by omega,?_⟩|refine ⟨by simp [capMax];omega,?_⟩|refine ⟨⟨by omega,by omega⟩,?_⟩)
    simp [dltM]
  by_cases k2:k = 2
  · subst k2
    simp -dsimp
    repeat (first|refine ⟨by omega,?_⟩|refine ⟨by simp [capMax];omega,?_⟩|refine ⟨⟨by omega,by omega⟩,?_⟩)
    simp [dltM,tA,tX]
  by_cases k3:k = 3
  · subst k3
    simp -dsimp
    simp [dltM]
  by_cases k4:k = 4
  · have b5:=tmod_bd hy.1 (n:=5) (by decide)
    have w5:IntKind.i64.wrap (1 + y.tmod 5) = 1 + y.tmod 5:=wrap64 (by omega) (by omega)
    subst k4
    simp -dsimp [w5]
    repeat (first|refine ⟨by omega,?_⟩|refine ⟨by simp [capMax];omega,?_⟩|refine ⟨⟨by omega,by omega⟩,?_⟩)
    simp [dltM,tA]
  simp -dsimp [k0,k1,k2,k3,k4]
  simp [dltM,k0,k1,k2,k3,k4]
end Am
namespace Am
open Go Go.Proofs
open Cel (cells)
set_option maxRecDepth 100000
def varB (n:Nat):List UInt8:=if n ≤ 127 then [u8 n] else u8 ((n:Int) % 128 + 128) :: varB (n / 128)
termination_by n
decreasing_by omega
def varS (n:Int):ByteArray:=str (varB n.toNat)
theorem varB_small {n:Nat} (h:n ≤ 127):varB n = [u8 n]:=by rw [varB,if_pos h]
theorem varB_great {n:Nat} (h:¬ n ≤ 127):varB n = u8 ((n:Int) % 128 + 128) :: varB (n / 128):=by rw [varB,if_neg h]
theorem varB_len:∀ (k n:Nat),n < 128 ^ (k + 1) → (varB n).length ≤ k + 1
  | 0,n,h => by rw [varB_small (by omega)]; simp
  | k + 1,n,h => by
    by_cases h1:n ≤ 127
    · rw [varB_small h1]; simp
    · rw [varB_great h1]
      have:=varB_len k (n / 128) (by rw [Nat.pow_succ] at h; omega)
      simp; omega
theorem varB_five {n:Nat} (h:n ≤ 1000000000):(varB n).length ≤ 5:=varB_len 4 n (by omega)
theorem varS_five {n:Int} (h:n ≤ 1000000000):(varS n).size ≤ 5:=by
  rw [varS,str_size]; exact varB_five (by omega)
theorem tmod_pos {n m:Nat}:(n:Int).tmod m = ((n % m:Nat):Int):=by
  rw [Int.tmod_eq_emod_of_nonneg (by omega)]; rfl
theorem tdiv_pos {n m:Nat}:(n:Int).tdiv m = ((n / m:Nat):Int):=by
  rw [Int.tdiv_eq_ediv_of_nonneg (by omega)]; rfl
@[simp] def h126:Hts:={  }
theorem f126_ok (n:Int) (h0:0 ≤ n) (h1:n ≤ 1000000000):FnR Tryz.prog 126 [.v (.int .i64 n)] (.v (.str (varS n))):=by
  obtain ⟨m,rfl⟩:=Int.eq_ofNat_of_zero_le h0
  have hl:=varB_five (n:=m) (by omega)
  refine FnW.of_AW TryzT_ok 0 (fn:=Tryz.f126) (by kernel_rfl) rfl (by kernel_rfl) rfl rfl rfl ?_; refine AW_of h126 TryzT_ok (by kernel_rfl) ?_
  simp -dsimp
  refine AWh_loop (fun s:Nat × List UInt8 => s.1 ≤ 1000000000 ∧ s.2 ++ varB s.1 = varB m) (fun s => mkE [(0,.c (.int .i64 s.1)),(3,.arr 256)] [(256,.arr 0 5 1 s.2.length (flat s.2))]) (fun s => s.1) (m,[]) (Wk_to [0,3] [(256,256)] rfl rfl (by simp)) (by simp; omega) ?_
  rintro ⟨k,p⟩ ⟨hk,hp⟩
  have hpl:p.length + (varB k).length ≤ 5:=by rw [← List.length_append,hp]; exact hl
  simp only at hk hp
  refine AW_of h126 TryzT_ok (by kernel_rfl) ?_
  rcases Nat.lt_or_ge 127 k with h1 | h1
  · have hi:(127:Int) < k:=by omega
    have e1:(k:Int).tmod 128 = (k:Int) % 128:=tmod_pos (m:=128)
    have e2:(k:Int).tdiv 128 = (k:Int) / 128:=tdiv_pos (m:=128)
    have w1:IntKind.i64.wrap ((k:Int) % 128 + 128) = (k:Int) % 128 + 128:=wrap64 (by omega) (by omega)
    have w2:IntKind.i64.wrap ((k:Int) / 128) = (k:Int) / 128:=wrap64 (by omega) (by omega)
    have hg:¬ k ≤ 127:=by omega
    simp -dsimp [hi,e1,e2,w1,w2]
    refine ⟨by simp [capMax]; omega,?_⟩
    exact Back_of (k / 128,p ++ [u8 ((k:Int) % 128 + 128)]) [0,3] [(256,832)] rfl rfl (by simp) ⟨by simp only; omega,by simp only; rw [← hp,varB_great hg]; simp⟩ (by simp only; omega)
  · have hi:¬ (127:Int) < k:=by omega
    have hj:(k:Int) ≤ 127:=by omega
    simp -dsimp [hi,hj]
    refine ⟨by simp [capMax]; omega,?_⟩
    rw [varB_small h1] at hp
    rw [varS,Int.toNat_natCast,← hp]
    rfl
@[simp] def h104:Hts:={ mergeF:=fun f => f == 137 }
theorem f104_ok (n:Int) (h0:0 ≤ n) (h1:n ≤ 1000000000):FnR Tryz.prog 104 [.v (.int .i64 n)] (.tup [.v (.str (varS n)),.v (.bool true)]):=by
  obtain ⟨m,rfl⟩:=Int.eq_ofNat_of_zero_le h0
  have hl:=varB_five (n:=m) (by omega)
  have hw:spIn m 0 1000000000 = true:=by simp [spIn]; omega
  refine FnW.of_AW TryzT_ok 0 (fn:=Tryz.f104) (by kernel_rfl) rfl (by kernel_rfl) rfl rfl rfl ?_; refine AW_of h104 TryzT_ok (by kernel_rfl) ?_
  simp -dsimp
  refine ACallK_of (f137_ok _ _ _) ?_
  simp -dsimp [hw]
  refine AWh_loop (fun s:Nat × List UInt8 => s.1 ≤ 1000000000 ∧ s.2 ++ varB s.1 = varB m) (fun s => mkE [(0,.c (.int .i64 s.1)),(4,.arr 512)] [(512,.arr 0 5 1 s.2.length (flat s.2))]) (fun s => s.1) (m,[]) (Wk_to [0,4] [(512,512)] rfl rfl (by simp)) (by simp; omega) ?_
  rintro ⟨k,p⟩ ⟨hk,hp⟩
  have hpl:p.length + (varB k).length ≤ 5:=by rw [← List.length_append,hp]; exact hl
  simp only at hk hp
  refine AW_of h104 TryzT_ok (by kernel_rfl) ?_
  rcases Nat.lt_or_ge 127 k with h1 | h1
  · have hi:(127:Int) < k:=by omega
    have e1:(k:Int).tmod 128 = (k:Int) % 128:=tmod_pos (m:=128)
    have e2:(k:Int).tdiv 128 = (k:Int) / 128:=tdiv_pos (m:=128)
    have w1:IntKind.i64.wrap ((k:Int) % 128 + 128) = (k:Int) % 128 + 128:=wrap64 (by omega) (by omega)
    have w2:IntKind.i64.wrap ((k:Int) / 128) = (k:Int) / 128:=wrap64 (by omega) (by omega)
    have hg:¬ k ≤ 127:=by omega
    simp -dsimp [hi,e1,e2,w1,w2]
    refine ⟨by simp [capMax]; omega,?_⟩
    exact Back_of (k / 128,p ++ [u8 ((k:Int) % 128 + 128)]) [0,4] [(512,1088)] rfl rfl (by simp) ⟨by simp only; omega,by simp only; rw [← hp,varB_great hg]; simp⟩ (by simp only; omega)
  · have hi:¬ (127:Int) < k:=by omega
    have hj:(k:Int) ≤ 127:=by omega
    simp -dsimp [hi,hj]
    refine ⟨by simp [capMax]; omega,?_⟩
    rw [varB_small h1] at hp
    rw [varS,Int.toNat_natCast,← hp]
    rfl
end Am
namespace Am
open Go Go.Proofs
open Cel (cells)
set_option maxRecDepth 100000
def decL:List UInt8 → Nat
  | [] => 0
  | c :: r => c.toNat % 128 + 128 * decL r
theorem u8_toNat (c:UInt8):u8 (c.toNat:Int) = c:=by
  have:=c.toNat_lt
  unfold u8
  apply UInt8.toNat_inj.1
  rw [UInt8.toNat_ofNat']
  omega
theorem decL_snoc (c:UInt8):∀ ds:List UInt8,decL (ds ++ [c]) = decL ds + c.toNat % 128 * 128 ^ ds.length
  | [] => by simp [decL]
  | d :: r => by
    have ih:=decL_snoc c r
    simp only [List.cons_append,decL,ih,List.length_cons,Nat.pow_succ]
    rw [Nat.mul_add,← Nat.mul_assoc,Nat.mul_comm 128 (c.toNat % 128),Nat.mul_assoc,Nat.mul_comm 128 (128 ^ r.length)]
    omega
theorem decL_pos {c:UInt8} (hc:c.toNat ≤ 127) (h0:c.toNat ≠ 0):∀ ds:List UInt8,1 ≤ decL (ds ++ [c])
  | [] => by simp [decL]; omega
  | d :: r => by
    have:=decL_pos hc h0 r
    simp only [List.cons_append,decL]
    omega
theorem varB_dec {c:UInt8} (hc:c.toNat ≤ 127):∀ ds:List UInt8,(∀ d,d ∈ ds → 127 < d.toNat) → (ds = [] ∨ c.toNat ≠ 0) → varB (decL (ds ++ [c])) = ds ++ [c]
  | [],_,_ => by
    have e:decL ([] ++ [c]) = c.toNat:=by simp [decL]; omega
    rw [e,varB_small hc,u8_toNat]; rfl
  | d :: r,hd,h0 => by
    have h0:=h0.resolve_left (by simp)
    have hp:=decL_pos hc h0 r
    have hdd:=hd d (by simp)
    have hlt:=d.toNat_lt
    have ih:=varB_dec hc r (fun x hx => hd x (by simp [hx])) (.inr h0)
    have e:decL (d :: r ++ [c]) = d.toNat % 128 + 128 * decL (r ++ [c]):=rfl
    rw [e,varB_great (by omega)]
    have e1:(((d.toNat % 128 + 128 * decL (r ++ [c]):Nat):Int) % 128 + 128) = (d.toNat:Int):=by omega
    have e2:(d.toNat % 128 + 128 * decL (r ++ [c])) / 128 = decL (r ++ [c]):=by omega
    rw [e1,e2,ih,u8_toNat]
    rfl
theorem u8_ne {n:Nat} (h:1 ≤ n) (h':n ≤ 255):(u8 (n:Int)).toNat ≠ 0:=by
  unfold u8
  rw [UInt8.toNat_ofNat']
  omega
theorem varB_last:∀ (n:Nat) (ds:List UInt8) (c:UInt8),varB n = ds ++ [c] → ds = [] ∨ c.toNat ≠ 0:=by
  intro n
  induction n using Nat.strongRecOn with
  | _ n ih =>
    intro ds c h
    by_cases h1:n ≤ 127
    · rw [varB_small h1] at h
      cases ds with
      | nil => exact .inl rfl
      | cons d r => simp at h
    · rw [varB_great h1] at h
      cases ds with
      | nil => exact .inl rfl
      | cons d r =>
        refine .inr ?_
        simp only [List.cons_append,List.cons.injEq] at h
        rcases ih (n / 128) (by omega) r c h.2 with e | e
        · subst e
          have h2:=h.2
          by_cases h3:n / 128 ≤ 127
          · rw [varB_small h3] at h2
            simp only [List.nil_append,List.cons.injEq,and_true] at h2
            rw [← h2]
            exact u8_ne (by omega) (by omega)
          · rw [varB_great h3] at h2
            simp only [List.nil_append,List.cons.injEq] at h2
            have h4:=h2.2
            have:(varB (n / 128 / 128)).length ≠ 0:=by
              by_cases h5:n / 128 / 128 ≤ 127
              · rw [varB_small h5]; simp
              · rw [varB_great h5]; simp
            rw [h4] at this
            simp at this
        · exact e
theorem varB_iff {c:UInt8} (hc:c.toNat ≤ 127) (ds:List UInt8) (hd:∀ d,d ∈ ds → 127 < d.toNat):varB (decL (ds ++ [c])) = ds ++ [c] ↔ (ds = [] ∨ c.toNat ≠ 0) :=
  ⟨varB_last _ _ _,varB_dec hc ds hd⟩
end Am
namespace Am
open Go Go.Proofs
open Cel (cells)
set_option maxRecDepth 100000
def rvGo:List UInt8 → List UInt8 → Nat → Option (Nat × Nat)
  | _,_,0 => none
  | [],_,_ + 1 => none
  | c :: r,ds,f + 1 => if 127 < c.toNat then rvGo r (ds ++ [c]) f else if (ds ≠ [] ∧ c.toNat = 0) ∨ 1000000000 < decL (ds ++ [c]) then none else some (decL (ds ++ [c]),ds.length + 1)
def rd (t:ByteArray) (p:Int):Option (Int × Int):=if 0 ≤ p ∧ p ≤ t.size then (rvGo (t.data.toList.drop p.toNat) [] 5).map fun x => ((x.1:Int),p + x.2) else none
def rdV (o:Option (Int × Int)):Int:=match o with | some x => x.1 | none => 0
def rdN (o:Option (Int × Int)):Int:=match o with | some x => x.2 | none => 0
theorem decL_lt:∀ ds:List UInt8,decL ds < 128 ^ ds.length
  | [] => by simp [decL]
  | d :: r => by
    have:=decL_lt r
    simp only [decL,List.length_cons,Nat.pow_succ]
    omega
theorem bt_at {t:ByteArray} {k:Nat} (h:k < t.size):∃ c:UInt8,t.data.toList.drop k = c :: t.data.toList.drop (k + 1) ∧ bt t (k:Int) = c.toNat:=by
  have h':k < t.data.toList.length:=by rw [Array.length_toList]; exact h
  refine ⟨t.data.toList[k],List.drop_eq_getElem_cons h',?_⟩
  unfold bt
  rw [Int.toNat_natCast,List.getD_eq_getElem?_getD,List.getElem?_eq_getElem h']
  rfl
theorem pow128 (i:Nat) (h:i < 5):(2:Int) ^ (min ((7 * (i:Int)).toNat) IntKind.i64.bits) = ((128 ^ i:Nat):Int):=by
  have:i = 0 ∨ i = 1 ∨ i = 2 ∨ i = 3 ∨ i = 4:=by omega
  rcases this with rfl | rfl | rfl | rfl | rfl <;> decide
theorem pow128_le (i:Nat) (h:i ≤ 5):128 ^ i ≤ 34359738368:=by
  have:i = 0 ∨ i = 1 ∨ i = 2 ∨ i = 3 ∨ i = 4 ∨ i = 5:=by omega
  rcases this with rfl | rfl | rfl | rfl | rfl | rfl <;> decide
@[simp] def h161:Hts:={ merge:=fun _ => false,mergeF:=fun f => f == 137 }
set_option maxHeartbeats 2000000 in
theorem f161_ok (t:ByteArray) (p:Int) (ht:t.size ≤ 1073741824):FnR Tryz.prog 161 [.v (.str t),.v (.int .i64 p)] (.tup [.v (.int .i64 (rdV (rd t p))),.v (.int .i64 (rdN (rd t p))),.v (.bool ((rd t p).isSome))]):=by
  refine FnW.of_AW TryzT_ok 0 (fn:=Tryz.f161) (by kernel_rfl) rfl (by kernel_rfl) rfl rfl rfl ?_; refine AW_of h161 TryzT_ok (by kernel_rfl) ?_
  simp -dsimp
  refine ACallK_of (f137_ok _ _ _) ?_
  by_cases hp:0 ≤ p ∧ p ≤ t.size
  rotate_left
  · have hw:spIn p 0 t.size = false:=by simp [spIn]; omega
    simp -dsimp [hw]
    simp [rd,hp,rdV,rdN]
  have hw:spIn p 0 t.size = true:=by simp [spIn]; omega
  obtain ⟨q,rfl⟩:=Int.eq_ofNat_of_zero_le hp.1
  have hq:q ≤ t.size:=by omega
  have hrd:rd t q = (rvGo (t.data.toList.drop q) [] 5).map fun x => ((x.1:Int),(q:Int) + x.2):=by rw [rd,if_pos hp,Int.toNat_natCast]
  simp -dsimp [hw]
  rw [hrd]
  refine AWh_loop (fun s:Nat × List UInt8 => s.1 = s.2.length ∧ s.1 ≤ 5 ∧ q + s.1 ≤ t.size ∧ rvGo (t.data.toList.drop (q + s.1)) s.2 (5 - s.1) = rvGo (t.data.toList.drop q) [] 5) (fun s => mkE [(0,.c (.str t)),(1,.c (.int .i64 q)),(7,.c (.int .i64 (decL s.2))),(8,.c (.int .i64 s.1))] []) (fun s => 5 - s.1) (0,[]) (Wk_to [0,1,7,8] [] rfl rfl (by simp [decL])) (by simp; omega) ?_
  rintro ⟨i,ds⟩ ⟨h1,h2,h3,h4⟩
  simp only at h1 h2 h3 h4
  refine AW_of h161 TryzT_ok (by kernel_rfl) ?_
  have hlt:=decL_lt ds
  have hpl:=pow128_le i h2
  rw [← h1] at hlt
  rcases Nat.lt_or_ge i 5 with i5 | i5
  · have i5':(i:Int) < 5:=by omega
    have wqi:IntKind.i64.wrap ((q:Int) + i) = (q:Int) + i:=wrap64 (by omega) (by omega)
    rcases Nat.lt_or_ge (q + i) t.size with k1 | k1
    · obtain ⟨c,hc,hb⟩:=bt_at k1
      have hb:bt t ((q:Int) + i) = c.toNat:=by rw [← hb]; congr 1
      have hf:5 - i = (5 - (i + 1)) + 1:=by omega
      rw [hc,hf,rvGo] at h4
      have hcl:c.toNat < 256:=c.toNat_lt
      have k1':(q:Int) + i < t.size:=by omega
      have k0:(0:Int) ≤ (q:Int) + i:=by omega
      have w8:IntKind.i64.wrap (c.toNat:Int) = c.toNat:=wrap64 (by omega) (by omega)
      have e1:(c.toNat:Int).tmod 128 = (c.toNat:Int) % 128:=tmod_pos (m:=128)
      have w7:IntKind.i64.wrap (7 * (i:Int)) = 7 * i:=wrap64 (by omega) (by omega)
      have k7:(0:Int) ≤ 7 * (i:Int):=by omega
      have hm:c.toNat % 128 * 128 ^ i ≤ 127 * 34359738368:=Nat.mul_le_mul (by omega) hpl
      have hdec:decL (ds ++ [c]) = decL ds + c.toNat % 128 * 128 ^ i:=by rw [decL_snoc,h1]
      have ws:IntKind.i64.wrap ((c.toNat:Int) % 128 * 2 ^ (min ((7 * (i:Int)).toNat) IntKind.i64.bits)) = ((c.toNat % 128 * 128 ^ i:Nat):Int):=by
        rw [pow128 i i5,show (c.toNat:Int) % 128 = ((c.toNat % 128:Nat):Int) by omega,← Int.natCast_mul,wrap64 (by omega) (by omega)]
      have wn:IntKind.i64.wrap ((decL ds:Int) + ((c.toNat % 128 * 128 ^ i:Nat):Int)) = (decL (ds ++ [c]):Int):=by
        rw [hdec,wrap64 (by omega) (by omega)]; omega
      have ws':IntKind.i64.wrap ((c.toNat:Int) % 128 * 2 ^ (min ((7 * (i:Int)).toNat) IntKind.i64.bits)) = (c.toNat:Int) % 128 * 128 ^ i:=by rw [ws]; push_cast; rfl
      have wn':IntKind.i64.wrap ((decL ds:Int) + (c.toNat:Int) % 128 * 128 ^ i) = (decL (ds ++ [c]):Int):=by rw [← wn]; push_cast; rfl
      have wi:IntKind.i64.wrap ((i:Int) + 1) = (i:Int) + 1:=wrap64 (by omega) (by omega)
      rcases Nat.lt_or_ge 127 c.toNat with c1 | c1
      · have c1':(127:Int) < c.toNat:=by omega
        rw [if_pos c1] at h4
        simp -dsimp [i5',wqi,k1',k0,hb,w8,e1,w7,k7,ws',wn',wi,c1']
        exact Back_of (i + 1,ds ++ [c]) [0,1,7,8] [] rfl rfl (by simp) ⟨by simp [h1],by simp only; omega,by simp only; omega,by simp only; rw [← h4,Nat.add_assoc]⟩ (by simp only; omega)
      · have c1':¬ (127:Int) < c.toNat:=by omega
        have c2':(c.toNat:Int) ≤ 127:=by omega
        rw [if_neg (by omega)] at h4
        have wqi1:IntKind.i64.wrap ((q:Int) + i + 1) = (q:Int) + i + 1:=wrap64 (by omega) (by omega)
        have fail:((ds ≠ [] ∧ c.toNat = 0) ∨ 1000000000 < decL (ds ++ [c])) → rvGo (t.data.toList.drop q) [] 5 = none:=fun h => by rw [if_pos h] at h4; exact h4.symm
        have good:¬ ((ds ≠ [] ∧ c.toNat = 0) ∨ 1000000000 < decL (ds ++ [c])) → rvGo (t.data.toList.drop q) [] 5 = some (decL (ds ++ [c]),ds.length + 1):=fun h => by rw [if_neg h] at h4; exact h4.symm
        have mx:(1000000000 < decL (ds ++ [c]) ∧ (1000000000:Int) < decL (ds ++ [c])) ∨ (¬ 1000000000 < decL (ds ++ [c]) ∧ ¬ (1000000000:Int) < decL (ds ++ [c]) ∧ (decL (ds ++ [c]):Int) ≤ 1000000000):=by omega
        rcases Nat.eq_zero_or_pos i with hz | hz
        · have z1:¬ 0 < i:=by omega
          have z2:ds = []:=List.eq_nil_of_length_eq_zero (by omega)
          rcases mx with ⟨m1,m2⟩ | ⟨m1,m2,m3⟩
          · simp -dsimp [i5',wqi,k1',k0,hb,w8,e1,w7,k7,ws',wn',wi,c1',c2',z1,m2]
            simp [fail (.inr m1),rdV,rdN]
          · simp -dsimp [i5',wqi,k1',k0,hb,w8,e1,w7,k7,ws',wn',wi,c1',c2',z1,m2,m3,wqi1]
            rw [good (by simp [z2]; rw [z2] at m1; simpa using m1)]
            simp [rdV,rdN,← h1]
            try omega
        · have z1:0 < i:=hz
          have z2:ds ≠ []:=fun e => by rw [e] at h1; simp at h1; omega
          by_cases c0:c.toNat = 0
          · have c3:((c.toNat:Int) == 0) = true:=by simp [c0]
            simp -dsimp [i5',wqi,k1',k0,hb,w8,e1,w7,k7,ws',wn',wi,c1',c2',z1,c3]
            simp [fail (.inl ⟨z2,c0⟩),rdV,rdN]
          · have c3:((c.toNat:Int) == 0) = false:=by simp [c0]
            rcases mx with ⟨m1,m2⟩ | ⟨m1,m2,m3⟩
            · simp -dsimp [i5',wqi,k1',k0,hb,w8,e1,w7,k7,ws',wn',wi,c1',c2',z1,c3,m2]
              simp [fail (.inr m1),rdV,rdN]
            · simp -dsimp [i5',wqi,k1',k0,hb,w8,e1,w7,k7,ws',wn',wi,c1',c2',z1,c3,m2,m3,wqi1]
              rw [good (by rintro (h | h); exact c0 h.2; exact m1 h)]
              simp [rdV,rdN,← h1]
              try omega
    · have k1':¬ (q:Int) + i < t.size:=by omega
      have k2':(t.size:Int) ≤ (q:Int) + i:=by omega
      have hn:t.data.toList.drop (q + i) = []:=List.drop_of_length_le (by rw [Array.length_toList]; exact k1)
      have hf:5 - i = (5 - (i + 1)) + 1:=by omega
      rw [hn,hf,rvGo] at h4
      simp -dsimp [i5',wqi,k1',k2']
      simp [← h4,rdV,rdN]
  · have i5':¬ (i:Int) < 5:=by omega
    have hf:5 - i = 0:=by omega
    rw [hf,rvGo] at h4
    simp -dsimp [i5']
    simp [← h4,rdV,rdN]
theorem extract_str (t:ByteArray) (a b:Nat):t.extract a b = str ((t.data.toList.drop a).take (b - a)):=by
  apply ByteArray.ext
  apply Array.ext'
  simp [str,ByteArray.data_extract,List.extract]
theorem str_inj {a b:List UInt8}:str a = str b ↔ a = b:=by
  constructor
  · intro h
    have:=congrArg (fun x => x.data.toList) h
    simpa [str] using this
  · rintro rfl; rfl
@[simp] def h170:Hts:={ merge:=fun _ => false,mergeF:=fun f => f == 86,dr:=fun id => if id = 11 then [{},{},{},{ mb:=[52] },{ cr:=true,mb:=[52] },{ mb:=[47] },{ mb:=[47] },{ mb:=[47] },{ mb:=[47] },{ cr:=true,mb:=[47] },{},{}] else [] }
set_option maxHeartbeats 2000000 in
theorem f170_ok (t:ByteArray) (p:Int) (ht:t.size ≤ 1073741824):FnR Tryz.prog 170 [.v (.str t),.v (.int .i64 p)] (.tup [.v (.int .i64 (rdV (rd t p))),.v (.int .i64 (rdN (rd t p))),.v (.bool ((rd t p).isSome))]):=by
  refine FnW.of_AW TryzT_ok 0 (fn:=Tryz.f170) (by kernel_rfl) rfl (by kernel_rfl) rfl rfl rfl ?_; refine AW_of h170 TryzT_ok (by kernel_rfl) ?_
  simp -dsimp
  refine ACallK_of (f86_ok _ _ _) ?_
  by_cases hp:0 ≤ p ∧ p ≤ t.size
  rotate_left
  · have hw:spIn p 0 t.size = false:=by simp [spIn]; omega
    simp -dsimp [hw]
    simp [rd,hp,rdV,rdN]
  have hw:spIn p 0 t.size = true:=by simp [spIn]; omega
  obtain ⟨q,rfl⟩:=Int.eq_ofNat_of_zero_le hp.1
  have hq:q ≤ t.size:=by omega
  have hrd:rd t q = (rvGo (t.data.toList.drop q) [] 5).map fun x => ((x.1:Int),(q:Int) + x.2):=by rw [rd,if_pos hp,Int.toNat_natCast]
  simp -dsimp [hw]
  rw [hrd]
  refine AWh_loop (fun s:Nat × List UInt8 => s.1 = s.2.length ∧ s.1 ≤ 5 ∧ q + s.1 ≤ t.size ∧ rvGo (t.data.toList.drop (q + s.1)) s.2 (5 - s.1) = rvGo (t.data.toList.drop q) [] 5 ∧ s.2 = (t.data.toList.drop q).take s.1 ∧ ∀ d,d ∈ s.2 → 127 < d.toNat) (fun s => mkE [(0,.c (.str t)),(1,.c (.int .i64 q)),(7,.c (.int .i64 (decL s.2))),(8,.c (.int .i64 (128 ^ s.1:Nat))),(9,.c (.int .i64 (q + s.1)))] []) (fun s => 5 - s.1) (0,[]) (Wk_to [0,1,7,8,9] [] rfl rfl (by simp [decL])) (by simp; omega) ?_
  rintro ⟨i,ds⟩ ⟨h1,h2,h3,h4,h5,h6⟩
  simp only at h1 h2 h3 h4 h5 h6
  refine AW_of h170 TryzT_ok (by kernel_rfl) ?_
  have hlt:=decL_lt ds
  have hpl:=pow128_le i h2
  have hp1:1 ≤ 128 ^ i:=Nat.pow_pos (by decide)
  rw [← h1] at hlt
  have w5:IntKind.i64.wrap ((q:Int) + 5) = (q:Int) + 5:=wrap64 (by omega) (by omega)
  rcases Nat.lt_or_ge (q + i) t.size with k1 | k1
  · have k1':(q:Int) + i < t.size:=by omega
    have k0:(0:Int) ≤ (q:Int) + i:=by omega
    rcases Nat.lt_or_ge i 5 with i5 | i5
    · have i5':(i:Int) < 5:=by omega
      have i5'':(q:Int) + i < q + 5:=by omega
      obtain ⟨c,hc,hb⟩:=bt_at k1
      have hb:bt t ((q:Int) + i) = c.toNat:=by rw [← hb]; congr 1
      have hf:5 - i = (5 - (i + 1)) + 1:=by omega
      rw [hc,hf,rvGo] at h4
      have hcl:c.toNat < 256:=c.toNat_lt
      have w8:IntKind.i64.wrap (c.toNat:Int) = c.toNat:=wrap64 (by omega) (by omega)
      have e1:(c.toNat:Int).tmod 128 = (c.toNat:Int) % 128:=tmod_pos (m:=128)
      have hm:c.toNat % 128 * 128 ^ i ≤ 127 * 34359738368:=Nat.mul_le_mul (by omega) hpl
      have hdec:decL (ds ++ [c]) = decL ds + c.toNat % 128 * 128 ^ i:=by rw [decL_snoc,h1]
      have ws':IntKind.i64.wrap ((c.toNat:Int) % 128 * 128 ^ i) = (c.toNat:Int) % 128 * 128 ^ i:=by
        have e:(c.toNat:Int) % 128 * 128 ^ i = ((c.toNat % 128 * 128 ^ i:Nat):Int):=by push_cast; rfl
        rw [e,wrap64 (by omega) (by omega)]
      have wn':IntKind.i64.wrap ((decL ds:Int) + (c.toNat:Int) % 128 * 128 ^ i) = (decL (ds ++ [c]):Int):=by
        have e:(c.toNat:Int) % 128 * 128 ^ i = ((c.toNat % 128 * 128 ^ i:Nat):Int):=by push_cast; rfl
        rw [e,hdec,wrap64 (by omega) (by omega)]; omega
      have wp':IntKind.i64.wrap ((128:Int) ^ i * 128) = 128 ^ i * 128:=by
        have e:(128:Int) ^ i = ((128 ^ i:Nat):Int):=by push_cast; rfl
        rw [e,wrap64 (by omega) (by omega)]
      have wi:IntKind.i64.wrap ((q:Int) + i + 1) = (q:Int) + i + 1:=wrap64 (by omega) (by omega)
      have hsl:ds ++ [c] = (t.data.toList.drop q).take (i + 1):=by
        rw [List.take_add_one,← h5]
        have:(t.data.toList.drop q)[i]? = some c:=by
          rw [List.getElem?_drop]
          have:=congrArg (fun l => l[0]?) hc
          simpa [List.getElem?_drop] using this
        rw [this]; rfl
      rcases Nat.lt_or_ge 127 c.toNat with c1 | c1
      · have c1':¬ (c.toNat:Int) < 128:=by omega
        have c2':(128:Int) ≤ c.toNat:=by omega
        rw [if_pos c1] at h4
        simp -dsimp [i5',i5'',w5,k1',k0,hb,w8,e1,ws',wn',wp',c1',c2',wi]
        exact Back_of (i + 1,ds ++ [c]) [0,1,7,8,9] [] rfl rfl (by simp [Int.pow_succ,Int.add_assoc]) ⟨by simp [h1],by simp only; omega,by simp only; omega,by simp only; rw [← h4,Nat.add_assoc],hsl,fun d hd => by
          rcases List.mem_append.1 hd with hd | hd
          · exact h6 d hd
          · simp only [List.mem_singleton] at hd; rw [hd]; exact c1⟩ (by simp only; omega)
      · have c1':(c.toNat:Int) < 128:=by omega
        rw [if_neg (by omega)] at h4
        have fail:((ds ≠ [] ∧ c.toNat = 0) ∨ 1000000000 < decL (ds ++ [c])) → rvGo (t.data.toList.drop q) [] 5 = none:=fun h => by rw [if_pos h] at h4; exact h4.symm
        have good:¬ ((ds ≠ [] ∧ c.toNat = 0) ∨ 1000000000 < decL (ds ++ [c])) → rvGo (t.data.toList.drop q) [] 5 = some (decL (ds ++ [c]),ds.length + 1):=fun h => by rw [if_neg h] at h4; exact h4.symm
        have tq:((q:Int) + i + 1).toNat = q + i + 1:=by omega
        have kk:(q:Int) + i + 1 ≤ t.size:=by omega
        have kl:(q:Int) ≤ (q:Int) + i + 1:=by omega
        have hvar:(varS (decL (ds ++ [c])) = t.extract q (q + i + 1)) ↔ (ds = [] ∨ c.toNat ≠ 0):=by
          rw [extract_str,show q + i + 1 - q = i + 1 by omega,← hsl,varS,Int.toNat_natCast,str_inj]
          exact varB_iff (by omega) ds h6
        rcases Nat.lt_or_ge 1000000000 (decL (ds ++ [c])) with m1 | m1
        · have m2:(1000000000:Int) < decL (ds ++ [c]):=by omega
          simp -dsimp [i5',i5'',w5,k1',k0,hb,w8,e1,ws',wn',wp',c1',wi,m2]
          simp [fail (.inr m1),rdV,rdN]
        · have m2:¬ (1000000000:Int) < decL (ds ++ [c]):=by omega
          have m3:(decL (ds ++ [c]):Int) ≤ 1000000000:=by omega
          simp -dsimp [i5',i5'',w5,k1',k0,hb,w8,e1,ws',wn',wp',c1',wi,m2,m3]
          refine ACallK_of (f126_ok _ (by omega) (by omega)) ?_
          by_cases hz:ds = [] ∨ c.toNat ≠ 0
          · have hv:=hvar.2 hz
            simp -dsimp [i5',i5'',w5,k1',k0,hb,w8,wi,m2,m3,tq,kk,kl,hv]
            rw [good (by rintro (h | h); exact (hz.elim (fun e => h.1 e) (fun e => e h.2)); omega)]
            simp [rdV,rdN,← h1]
            try omega
          · have hv:¬ varS (decL (ds ++ [c])) = t.extract q (q + i + 1):=fun e => hz (hvar.1 e)
            simp -dsimp [i5',i5'',w5,k1',k0,hb,w8,wi,m2,m3,tq,kk,kl,hv]
            simp [fail (.inl ⟨fun e => hz (.inl e),Decidable.not_not.1 fun e => hz (.inr e)⟩),rdV,rdN]
    · have i5':¬ (i:Int) < 5:=by omega
      have i5'':¬ (q:Int) + i < q + 5:=by omega
      have hf:5 - i = 0:=by omega
      rw [hf,rvGo] at h4
      simp -dsimp [i5',i5'',w5,k1',k0]
      simp [← h4,rdV,rdN]
  · have k1':¬ (q:Int) + i < t.size:=by omega
    have hn:t.data.toList.drop (q + i) = []:=List.drop_of_length_le (by rw [Array.length_toList]; exact k1)
    have hnone:rvGo (t.data.toList.drop q) [] 5 = none:=by
      rw [← h4,hn]
      cases (5 - i) <;> rfl
    simp -dsimp [k1',w5]
    simp [hnone,rdV,rdN]
end Am
namespace Am
open Go Go.Proofs
open Cel (cells)
set_option maxRecDepth 100000
structure GScan where
  t:ByteArray
  pos:Int
  bad:Bool
def numM (s:GScan):Int × GScan:=if s.bad = true then (0,s) else match rd s.t s.pos with
  | none => (0,⟨s.t,s.pos,true⟩)
  | some x => (x.1,⟨s.t,x.2,false⟩)
@[simp] def h123:Hts:={ merge:=fun _ => false,dr:=fun id => if id = 3 then [{},{},{},{},{},{},{},{},{ cr:=true },{},{},{},{},{},{},{}] else [] }
theorem f123_ok (s:GScan) (ht:s.t.size ≤ 1073741824):FnW Tryz.prog 123 [.ptr [.str (s).t,.int .i64 (s).pos,.bool (s).bad]] (.v (.int .i64 ((numM s).1))) [.ptr [.str ((numM s).2).t,.int .i64 ((numM s).2).pos,.bool ((numM s).2).bad]]:=by
  obtain ⟨t,p,b⟩:=s
  refine FnW.of_AW TryzT_ok 1 (fn:=Tryz.f123) (by kernel_rfl) rfl (by kernel_rfl) rfl rfl rfl ?_; refine AW_of h123 TryzT_ok (by kernel_rfl) ?_
  cases b
  · simp -dsimp
    refine ACallK_of (f170_ok _ _ ht) ?_
    cases g:rd t p with
    | none =>
      simp -dsimp [rdV,rdN]
      simp [numM,g]
    | some x =>
      simp -dsimp [rdV,rdN]
      simp [numM,g]
  · simp -dsimp
    simp [numM]
@[simp] def h107:Hts:={ merge:=fun _ => false,dr:=fun id => if id = 1 then [{},{},{},{},{},{},{},{},{ cr:=true },{},{},{},{},{},{},{}] else [] }
theorem f107_ok (s:GScan) (ht:s.t.size ≤ 1073741824):FnW Tryz.prog 107 [.ptr [.str (s).t,.int .i64 (s).pos,.bool (s).bad]] (.v (.int .i64 ((numM s).1))) [.ptr [.str ((numM s).2).t,.int .i64 ((numM s).2).pos,.bool ((numM s).2).bad]]:=by
  obtain ⟨t,p,b⟩:=s
  refine FnW.of_AW TryzT_ok 1 (fn:=Tryz.f107) (by kernel_rfl) rfl (by kernel_rfl) rfl rfl rfl ?_; refine AW_of h107 TryzT_ok (by kernel_rfl) ?_
  cases b
  · simp -dsimp
    refine ACallK_of (f161_ok _ _ ht) ?_
    cases g:rd t p with
    | none =>
      simp -dsimp [rdV,rdN]
      simp [numM,g]
    | some x =>
      simp -dsimp [rdV,rdN]
      simp [numM,g]
  · simp -dsimp
    refine ACallK_of (f161_ok _ _ ht) ?_
    simp -dsimp
    simp [numM]
end Am
namespace Am
open Go Go.Proofs
open Cel (cells)
set_option maxRecDepth 100000
theorem rvGo_spec:∀ (f:Nat) (l ds:List UInt8) (n c:Nat),rvGo l ds f = some (n,c) → n ≤ 1000000000 ∧ ds.length < c ∧ c ≤ ds.length + l.length
  | 0,_,_,_,_,h => by simp [rvGo] at h
  | f + 1,[],_,_,_,h => by simp [rvGo] at h
  | f + 1,x :: r,ds,n,c,h => by
    simp only [rvGo] at h
    split at h
    · have:=rvGo_spec f r (ds ++ [x]) n c h
      simp at this ⊢
      omega
    · split at h
      · cases h
      · simp only [Option.some.injEq,Prod.mk.injEq] at h
        obtain ⟨rfl,rfl⟩:=h
        simp at *
        omega
theorem rd_spec {t:ByteArray} {p n a:Int} (h:rd t p = some (n,a)):0 ≤ p ∧ 0 ≤ n ∧ n ≤ 1000000000 ∧ p < a ∧ a ≤ t.size:=by
  unfold rd at h
  split at h
  · rename_i hp
    simp only [Option.map_eq_some_iff] at h
    obtain ⟨⟨m,c⟩,h1,h2⟩:=h
    have h3:=rvGo_spec 5 _ _ _ _ h1
    simp only [Prod.mk.injEq] at h2
    obtain ⟨rfl,rfl⟩:=h2
    simp at h3
    have:t.data.size = t.size:=rfl
    omega
  · cases h
def rs (t:ByteArray) (p:Int):Option (ByteArray × Int):=match rd t p with
  | none => none
  | some x => if 20000 < x.1 ∨ t.size - x.2 < x.1 then none else some (t.extract x.2.toNat (x.2 + x.1).toNat,x.2 + x.1)
def rsS (o:Option (ByteArray × Int)):ByteArray:=match o with | some x => x.1 | none => ⟨#[]⟩
def rsN (o:Option (ByteArray × Int)):Int:=match o with | some x => x.2 | none => 0
@[simp] def h171:Hts:={ merge:=fun _ => false }
set_option maxHeartbeats 1000000 in
theorem f171_ok (t:ByteArray) (p:Int) (ht:t.size ≤ 1073741824):FnR Tryz.prog 171 [.v (.str t),.v (.int .i64 p)] (.tup [.v (.str (rsS (rs t p))),.v (.int .i64 (rsN (rs t p))),.v (.bool ((rs t p).isSome))]):=by
  refine FnW.of_AW TryzT_ok 0 (fn:=Tryz.f171) (by kernel_rfl) rfl (by kernel_rfl) rfl rfl rfl ?_; refine AW_of h171 TryzT_ok (by kernel_rfl) ?_
  simp -dsimp
  refine ACallK_of (f170_ok _ _ ht) ?_
  cases g:rd t p with
  | none =>
    simp -dsimp [rdV,rdN]
    simp [rs,g,rsS,rsN]
  | some x =>
    obtain ⟨n,a⟩:=x
    obtain ⟨r0,r1,r2,r3,r4⟩:=rd_spec g
    have w1:IntKind.i64.wrap ((t.size:Int) - a) = t.size - a:=wrap64 (by omega) (by omega)
    rcases Int.lt_or_le 20000 n with c1 | c1
    · have c1':¬ n ≤ 20000:=by omega
      simp -dsimp [rdV,rdN,w1,c1,c1']
      simp [rs,g,rsS,rsN,c1]
    · have c1':¬ 20000 < n:=by omega
      rcases Int.lt_or_le ((t.size:Int) - a) n with c2 | c2
      · have c2':¬ n ≤ (t.size:Int) - a:=by omega
        simp -dsimp [rdV,rdN,w1,c1,c1',c2,c2']
        simp [rs,g,rsS,rsN,c2]
      · have c2':¬ (t.size:Int) - a < n:=by omega
        have w2:IntKind.i64.wrap (a + n) = a + n:=wrap64 (by omega) (by omega)
        simp -dsimp [rdV,rdN,w1,w2,c1,c1',c2,c2']
        simp [rs,g,rsS,rsN,c1',c2']
        try omega
@[simp] def h162:Hts:={ merge:=fun _ => false }
set_option maxHeartbeats 1000000 in
theorem f162_ok (t:ByteArray) (p:Int) (ht:t.size ≤ 1073741824):FnR Tryz.prog 162 [.v (.str t),.v (.int .i64 p)] (.tup [.v (.str (rsS (rs t p))),.v (.int .i64 (rsN (rs t p))),.v (.bool ((rs t p).isSome))]):=by
  refine FnW.of_AW TryzT_ok 0 (fn:=Tryz.f162) (by kernel_rfl) rfl (by kernel_rfl) rfl rfl rfl ?_; refine AW_of h162 TryzT_ok (by kernel_rfl) ?_
  simp -dsimp
  refine ACallK_of (f161_ok _ _ ht) ?_
  cases g:rd t p with
  | none =>
    simp -dsimp [rdV,rdN]
    simp [rs,g,rsS,rsN]
  | some x =>
    obtain ⟨n,a⟩:=x
    obtain ⟨r0,r1,r2,r3,r4⟩:=rd_spec g
    have w1:IntKind.i64.wrap ((t.size:Int) - a) = t.size - a:=wrap64 (by omega) (by omega)
    rcases Int.lt_or_le 20000 n with c1 | c1
    · have c1':¬ n ≤ 20000:=by omega
      simp -dsimp [rdV,rdN,w1,c1,c1']
      simp [rs,g,rsS,rsN,c1]
    · have c1':¬ 20000 < n:=by omega
      rcases Int.lt_or_le ((t.size:Int) - a) n with c2 | c2
      · have c2':¬ n ≤ (t.size:Int) - a:=by omega
        simp -dsimp [rdV,rdN,w1,c1,c1',c2,c2']
        simp [rs,g,rsS,rsN,c2]
      · have c2':¬ (t.size:Int) - a < n:=by omega
        have w2:IntKind.i64.wrap (a + n) = a + n:=wrap64 (by omega) (by omega)
        simp -dsimp [rdV,rdN,w1,w2,c1,c1',c2,c2']
        simp [rs,g,rsS,rsN,c1',c2']
        try omega
def shM (s:GScan):ByteArray × GScan:=if s.bad = true then (⟨#[]⟩,s) else match rs s.t s.pos with
  | none => (⟨#[]⟩,⟨s.t,s.pos,true⟩)
  | some x => (x.1,⟨s.t,x.2,false⟩)
@[simp] def h124:Hts:={ merge:=fun _ => false,dr:=fun id => if id = 3 then [{},{},{},{},{},{},{},{},{ cr:=true },{},{},{},{},{},{},{}] else [] }
theorem f124_ok (s:GScan) (ht:s.t.size ≤ 1073741824):FnW Tryz.prog 124 [.ptr [.str (s).t,.int .i64 (s).pos,.bool (s).bad]] (.v (.str ((shM s).1))) [.ptr [.str ((shM s).2).t,.int .i64 ((shM s).2).pos,.bool ((shM s).2).bad]]:=by
  obtain ⟨t,p,b⟩:=s
  refine FnW.of_AW TryzT_ok 1 (fn:=Tryz.f124) (by kernel_rfl) rfl (by kernel_rfl) rfl rfl rfl ?_; refine AW_of h124 TryzT_ok (by kernel_rfl) ?_
  cases b
  · simp -dsimp
    refine ACallK_of (f171_ok _ _ ht) ?_
    cases g:rs t p with
    | none =>
      simp -dsimp [rsS,rsN]
      simp [shM,g]
    | some x =>
      simp -dsimp [rsS,rsN]
      simp [shM,g]
  · simp -dsimp
    simp [shM]
@[simp] def h108:Hts:={ merge:=fun _ => false,dr:=fun id => if id = 1 then [{},{},{},{},{},{},{},{},{ cr:=true },{},{},{},{},{},{},{}] else [] }
theorem f108_ok (s:GScan) (ht:s.t.size ≤ 1073741824):FnW Tryz.prog 108 [.ptr [.str (s).t,.int .i64 (s).pos,.bool (s).bad]] (.v (.str ((shM s).1))) [.ptr [.str ((shM s).2).t,.int .i64 ((shM s).2).pos,.bool ((shM s).2).bad]]:=by
  obtain ⟨t,p,b⟩:=s
  refine FnW.of_AW TryzT_ok 1 (fn:=Tryz.f108) (by kernel_rfl) rfl (by kernel_rfl) rfl rfl rfl ?_; refine AW_of h108 TryzT_ok (by kernel_rfl) ?_
  cases b
  · simp -dsimp
    refine ACallK_of (f162_ok _ _ ht) ?_
    cases g:rs t p with
    | none =>
      simp -dsimp [rsS,rsN]
      simp [shM,g]
    | some x =>
      simp -dsimp [rsS,rsN]
      simp [shM,g]
  · simp -dsimp
    refine ACallK_of (f162_ok _ _ ht) ?_
    simp -dsimp
    simp [shM]
def dotM (s:GScan):GDot × GScan:=(⟨(numM s).1,(numM (numM s).2).1⟩,(numM (numM s).2).2)
def setBad (s:GScan):GScan:=⟨s.t,s.pos,true⟩
def cntM (s:GScan):Int × GScan:=if 120 < (numM s).1 then (0,setBad (numM s).2) else numM s
def flagM (s:GScan):Bool × GScan:=((numM s).1 == 1,if 1 < (numM s).1 then setBad (numM s).2 else (numM s).2)
theorem numM_t (s:GScan):(numM s).2.t = s.t:=by
  unfold numM
  split
  · rfl
  · split <;> rfl
@[simp] def h61:Hts:={ lend:=fun _ => [.box []] }
theorem f61_ok (s:GScan) (ht:s.t.size ≤ 1073741824):FnW Tryz.prog 61 [.ptr [.str (s).t,.int .i64 (s).pos,.bool (s).bad]] (.agg [.int .i64 ((dotM s).1).rep,.int .i64 ((dotM s).1).seq]) [.ptr [.str ((dotM s).2).t,.int .i64 ((dotM s).2).pos,.bool ((dotM s).2).bad]]:=by
  refine FnW.of_AW TryzT_ok 1 (fn:=Tryz.f61) (by kernel_rfl) rfl (by kernel_rfl) rfl rfl rfl ?_; refine AW_of h61 TryzT_ok (by kernel_rfl) ?_
  simp -dsimp
  refine ACallW_go ?_
  refine ACallC_go (fun us => f123_ok s ht) ?_
  simp -dsimp
  refine ACallW_go ?_
  refine ACallC_go (fun us => f123_ok (numM s).2 (by rw [numM_t]; exact ht)) ?_
  simp -dsimp
  exact ⟨⟨rfl,rfl⟩,rfl,rfl,rfl⟩
@[simp] def h49:Hts:={ lend:=fun _ => [.box []] }
theorem f49_ok (s:GScan) (ht:s.t.size ≤ 1073741824):FnW Tryz.prog 49 [.ptr [.str (s).t,.int .i64 (s).pos,.bool (s).bad]] (.agg [.int .i64 ((dotM s).1).rep,.int .i64 ((dotM s).1).seq]) [.ptr [.str ((dotM s).2).t,.int .i64 ((dotM s).2).pos,.bool ((dotM s).2).bad]]:=by
  refine FnW.of_AW TryzT_ok 1 (fn:=Tryz.f49) (by kernel_rfl) rfl (by kernel_rfl) rfl rfl rfl ?_; refine AW_of h49 TryzT_ok (by kernel_rfl) ?_
  simp -dsimp
  refine ACallW_go ?_
  refine ACallC_go (fun us => f107_ok s ht) ?_
  simp -dsimp
  refine ACallW_go ?_
  refine ACallC_go (fun us => f107_ok (numM s).2 (by rw [numM_t]; exact ht)) ?_
  simp -dsimp
  exact ⟨⟨rfl,rfl⟩,rfl,rfl,rfl⟩
def kn (s:GScan):Nat → List Int × GScan
  | 0 => ([],s)
  | i + 1 => ((kn s i).1 ++ [(numM (kn s i).2).1],(numM (kn s i).2).2)
theorem kn_t (s:GScan):∀ i,(kn s i).2.t = s.t
  | 0 => rfl
  | i + 1 => by rw [kn,numM_t,kn_t s i]
theorem kn_len (s:GScan):∀ i,(kn s i).1.length = i
  | 0 => rfl
  | i + 1 => by simp [kn,kn_len s i]
def knowM (s:GScan):List Int × GScan:=kn s 3
@[simp] def h55:Hts:={ lend:=fun f => if f = 123 then [.box []] else [] }
theorem f55_ok (s:GScan) (ht:s.t.size ≤ 1073741824):FnW Tryz.prog 55 [.ptr [.str (s).t,.int .i64 (s).pos,.bool (s).bad]] (.v (.ow 3 1 ((knowM s).1).length (flat ((knowM s).1)))) [.ptr [.str ((knowM s).2).t,.int .i64 ((knowM s).2).pos,.bool ((knowM s).2).bad]]:=by
  refine FnW.of_AW TryzT_ok 1 (fn:=Tryz.f55) (by kernel_rfl) rfl (by kernel_rfl) rfl rfl rfl ?_; refine AW_of h55 TryzT_ok (by kernel_rfl) ?_
  simp -dsimp
  refine AWh_loop (fun i:Nat => i ≤ 3) (fun i => mkE [(0,.box 640000 0),(3,.arr 192),(4,.c (.int .i64 i))] [(640000,.box [.c (.str (kn s i).2.t),.c (.int .i64 (kn s i).2.pos),.c (.bool (kn s i).2.bad)]),(192,.arr 0 3 1 (kn s i).1.length (flat (kn s i).1))]) (fun i => 3 - i) 0 (Wk_to [0,3,4] [(640000,640000),(192,320)] rfl rfl (by simp [kn])) (by simp) ?_
  rintro i hi
  have hl:=kn_len s i
  refine AW_of h55 TryzT_ok (by kernel_rfl) ?_
  rcases Nat.lt_or_ge i 3 with h1 | h1
  · have h1':(i:Int) < 3:=by omega
    simp -dsimp [h1']
    refine ACallW_go ?_
    refine ACallC_go (fun us => f123_ok (kn s i).2 (by rw [kn_t]; exact ht)) ?_
    simp -dsimp
    refine ⟨by simp [capMax]; omega,?_⟩
    exact Back_of (i + 1) [0,3,4] [(640000,640000),(192,896)] rfl rfl (by simp [kn]; rw [wrap64 (by omega) (by omega)]) (by omega) (by omega)
  · obtain rfl:i = 3:=by omega
    simp -dsimp
    exact ⟨⟨rfl,rfl⟩,rfl,rfl,rfl⟩
@[simp] def h41:Hts:={ lend:=fun f => if f = 107 then [.box []] else [] }
theorem f41_ok (s:GScan) (ht:s.t.size ≤ 1073741824):FnW Tryz.prog 41 [.ptr [.str (s).t,.int .i64 (s).pos,.bool (s).bad]] (.v (.ow 3 1 ((knowM s).1).length (flat ((knowM s).1)))) [.ptr [.str ((knowM s).2).t,.int .i64 ((knowM s).2).pos,.bool ((knowM s).2).bad]]:=by
  refine FnW.of_AW TryzT_ok 1 (fn:=Tryz.f41) (by kernel_rfl) rfl (by kernel_rfl) rfl rfl rfl ?_; refine AW_of h41 TryzT_ok (by kernel_rfl) ?_
  simp -dsimp
  refine AWh_loop (fun i:Nat => i ≤ 3) (fun i => mkE [(0,.box 640000 0),(3,.arr 192),(6,.c (.int .i64 i))] [(640000,.box [.c (.str (kn s i).2.t),.c (.int .i64 (kn s i).2.pos),.c (.bool (kn s i).2.bad)]),(192,.arr 0 3 1 (kn s i).1.length (flat (kn s i).1))]) (fun i => 3 - i) 0 (Wk_to [0,3,6] [(640000,640000),(192,320)] rfl rfl (by simp [kn])) (by simp) ?_
  rintro i hi
  have hl:=kn_len s i
  refine AW_of h41 TryzT_ok (by kernel_rfl) ?_
  rcases Nat.lt_or_ge i 3 with h1 | h1
  · have h1':(i:Int) < 3:=by omega
    simp -dsimp [h1']
    refine ACallW_go ?_
    refine ACallC_go (fun us => f107_ok (kn s i).2 (by rw [kn_t]; exact ht)) ?_
    simp -dsimp
    refine ⟨by simp [capMax]; omega,?_⟩
    exact Back_of (i + 1) [0,3,6] [(640000,640000),(192,832)] rfl rfl (by simp [kn]; rw [wrap64 (by omega) (by omega)]) (by omega) (by omega)
  · obtain rfl:i = 3:=by omega
    simp -dsimp
    exact ⟨⟨rfl,rfl⟩,rfl,rfl,rfl⟩
@[simp] def h60:Hts:={ lend:=fun _ => [.box []] }
theorem f60_ok (s:GScan) (ht:s.t.size ≤ 1073741824):FnW Tryz.prog 60 [.ptr [.str (s).t,.int .i64 (s).pos,.bool (s).bad]] (.v (.int .i64 ((cntM s).1))) [.ptr [.str ((cntM s).2).t,.int .i64 ((cntM s).2).pos,.bool ((cntM s).2).bad]]:=by
  refine FnW.of_AW TryzT_ok 1 (fn:=Tryz.f60) (by kernel_rfl) rfl (by kernel_rfl) rfl rfl rfl ?_; refine AW_of h60 TryzT_ok (by kernel_rfl) ?_
  simp -dsimp
  refine ACallW_go ?_
  refine ACallC_go (fun us => f123_ok s ht) ?_
  rcases Int.lt_or_le 120 (numM s).1 with h | h
  · have h':¬ (numM s).1 ≤ 120:=by omega
    simp -dsimp [h,h']
    simp [cntM,h,setBad]
  · have h':¬ 120 < (numM s).1:=by omega
    simp -dsimp [h,h']
    simp [cntM,h']
@[simp] def h48:Hts:={ lend:=fun _ => [.box []] }
theorem f48_ok (s:GScan) (ht:s.t.size ≤ 1073741824):FnW Tryz.prog 48 [.ptr [.str (s).t,.int .i64 (s).pos,.bool (s).bad]] (.v (.int .i64 ((cntM s).1))) [.ptr [.str ((cntM s).2).t,.int .i64 ((cntM s).2).pos,.bool ((cntM s).2).bad]]:=by
  refine FnW.of_AW TryzT_ok 1 (fn:=Tryz.f48) (by kernel_rfl) rfl (by kernel_rfl) rfl rfl rfl ?_; refine AW_of h48 TryzT_ok (by kernel_rfl) ?_
  simp -dsimp
  refine ACallW_go ?_
  refine ACallC_go (fun us => f107_ok s ht) ?_
  rcases Int.lt_or_le 120 (numM s).1 with h | h
  · have h':¬ (numM s).1 ≤ 120:=by omega
    simp -dsimp [h,h']
    simp [cntM,h,setBad]
  · have h':¬ 120 < (numM s).1:=by omega
    simp -dsimp [h,h']
    simp [cntM,h']
@[simp] def h109:Hts:={ lend:=fun _ => [.box []] }
theorem f109_ok (s:GScan) (ht:s.t.size ≤ 1073741824):FnW Tryz.prog 109 [.ptr [.str (s).t,.int .i64 (s).pos,.bool (s).bad]] (.v (.bool ((flagM s).1))) [.ptr [.str ((flagM s).2).t,.int .i64 ((flagM s).2).pos,.bool ((flagM s).2).bad]]:=by
  refine FnW.of_AW TryzT_ok 1 (fn:=Tryz.f109) (by kernel_rfl) rfl (by kernel_rfl) rfl rfl rfl ?_; refine AW_of h109 TryzT_ok (by kernel_rfl) ?_
  simp -dsimp
  refine ACallW_go ?_
  refine ACallC_go (fun us => f107_ok s ht) ?_
  rcases Int.lt_or_le 1 (numM s).1 with h | h
  · have h':¬ (numM s).1 ≤ 1:=by omega
    simp -dsimp [h,h']
    simp [flagM,h,setBad]
  · have h':¬ 1 < (numM s).1:=by omega
    simp -dsimp [h,h']
    simp [flagM,h']
def boolS (s:GScan):Bool × GScan:=if s.bad = true ∨ s.t.size ≤ s.pos ∨ 1 < bt s.t s.pos then (false,setBad s) else (bt s.t s.pos == 1,⟨s.t,s.pos + 1,false⟩)
@[simp] def h125:Hts:={ merge:=fun _ => false,dr:=fun id => if id = 1 then [{},{},{},{},{},{},{},{},{},{},{},{},{},{},{},{},{},{},{},{},{},{},{},{},{},{},{},{}] else if id = 5 then [{},{},{},{},{},{},{},{},{},{},{},{}] else [] }
set_option maxHeartbeats 1000000 in
theorem f125_ok (s:GScan) (ht:s.t.size ≤ 1073741824) (hp:0 ≤ s.pos):FnW Tryz.prog 125 [.ptr [.str (s).t,.int .i64 (s).pos,.bool (s).bad]] (.v (.bool ((boolS s).1))) [.ptr [.str ((boolS s).2).t,.int .i64 ((boolS s).2).pos,.bool ((boolS s).2).bad]]:=by
  obtain ⟨t,p,b⟩:=s
  simp only at ht hp
  refine FnW.of_AW TryzT_ok 1 (fn:=Tryz.f125) (by kernel_rfl) rfl (by kernel_rfl) rfl rfl rfl ?_; refine AW_of h125 TryzT_ok (by kernel_rfl) ?_
  cases b
  · rcases Int.lt_or_le p t.size with h1 | h1
    · have h1':¬ (t.size:Int) ≤ p:=by omega
      rcases Int.lt_or_le 1 (bt t p) with h2 | h2
      · have h2':¬ bt t p ≤ 1:=by omega
        simp -dsimp [h1,h1',h2,h2',hp]
        simp [boolS,h1',h2,setBad]
      · have h2':¬ 1 < bt t p:=by omega
        have w1:IntKind.i64.wrap (p + 1) = p + 1:=wrap64 (by omega) (by omega)
        have w2:IntKind.i64.wrap p = p:=wrap64 (by omega) (by omega)
        simp -dsimp [h1,h1',h2,h2',hp,w1,w2]
        simp [boolS,h1',h2',h1]
    · have h1':¬ p < (t.size:Int):=by omega
      simp -dsimp [h1,h1']
      simp [boolS,h1,setBad]
  · simp -dsimp
    simp [boolS,setBad]
end Am
