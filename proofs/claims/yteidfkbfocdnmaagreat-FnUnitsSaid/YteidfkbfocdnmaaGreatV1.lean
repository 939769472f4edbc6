/- What draws: a cursor over bytes,mixed with numbers that follow from them. No condition. -/
import Derived.Test.YteidfkbfocdnmaaGreatT
import Derived.Test.YteidfkbfocdnmaaGreatD
import Derived.Test.YteidfkbfocdnmaaGreatE2
import Derived.Test.YteidfkbfocdnmaaGreatAm32
import Derived.Test.YteidfkbfocdnmaaGreatAm29
import Derived.Test.YteidfkbfocdnmaaGreatAm31
import Derived.Test.YteidfkbfocdnmaaGreatU1
import Derived.Test.YteidfkbfocdnmaaGreatE93a
set_option linter.unusedSimpArgs false
set_option linter.unusedVariables false
set_option linter.unnecessarySimpa false
set_option linter.unusedSectionVars false
namespace Am
open Go Go.Proofs
open Cel (cells)
set_option maxRecDepth 100000
structure GCur where
  b:List UInt8
  i:Int
  h:Int
def GCur.Ok (c:GCur):Prop:=0 ≤ c.i ∧ c.i ≤ c.b.length ∧ c.b.length ≤ 1048576
def band (a b:Int):Int:=IntKind.i64.wrap ((BitVec.ofInt IntKind.i64.bits a &&& BitVec.ofInt IntKind.i64.bits b).toNat:Int)
def bxor (a b:Int):Int:=IntKind.i64.wrap ((BitVec.ofInt IntKind.i64.bits a ^^^ BitVec.ofInt IntKind.i64.bits b).toNat:Int)
@[simp ↓] theorem abits_and (a b:Int):abits .i64 (BitVec.ofInt IntKind.i64.bits a &&& BitVec.ofInt IntKind.i64.bits b) = .int .i64 (band a b):=rfl
@[simp ↓] theorem abits_xor (a b:Int):abits .i64 (BitVec.ofInt IntKind.i64.bits a ^^^ BitVec.ofInt IntKind.i64.bits b) = .int .i64 (bxor a b):=rfl
theorem band_bd (a:Int) (n:Nat) (hn:n < 4611686018427387904):0 ≤ band a n ∧ band a n ≤ n:=by
  have h1:(BitVec.ofInt IntKind.i64.bits a &&& BitVec.ofInt IntKind.i64.bits (n:Int)).toNat ≤ n:=by
    rw [BitVec.toNat_and]
    refine Nat.le_trans Nat.and_le_right ?_
    rw [BitVec.toNat_ofInt]
    have:((n:Int) % ((2 ^ IntKind.i64.bits:Nat):Int)) = n:=Int.emod_eq_of_lt (by omega) (by show (n:Int) < 18446744073709551616; omega)
    rw [this]; simp
  unfold band
  rw [wrap64 (by omega) (by omega)]
  omega
def curH (c:GCur):Int:=IntKind.i64.wrap (IntKind.i64.wrap (c.h * 6364136223846793005) + 1442695040888963407)
def curX (c:GCur):Int:=band (bxor ((curH c).fdiv (2 ^ min 33 IntKind.i64.bits)) ((curH c).fdiv (2 ^ min 45 IntKind.i64.bits))) 255
def curB (c:GCur):Int × GCur :=
  if c.i < c.b.length then (band (IntKind.i64.wrap (curX c + (nth c.b c.i.toNat).toNat)) 255,⟨c.b,c.i + 1,curH c⟩) else (curX c,⟨c.b,c.i,curH c⟩)
theorem curX_bd (c:GCur):0 ≤ curX c ∧ curX c ≤ 255:=band_bd _ 255 (by decide)
theorem curB_bd (c:GCur):0 ≤ (curB c).1 ∧ (curB c).1 ≤ 255:=by
  unfold curB
  split
  · exact band_bd _ 255 (by decide)
  · exact curX_bd c
theorem curB_ok {c:GCur} (h:c.Ok):(curB c).2.Ok:=by
  unfold curB
  simp only [GCur.Ok] at h
  split
  · simp only [GCur.Ok]; omega
  · simp only [GCur.Ok]; omega
@[simp] def h116:Hts:={ merge:=fun _ => false,dr:=fun id => if id = 2 then [{},{},{},{},{},{},{},{},{},{},{},{},{}] else if id = 3 then [{},{},{},{},{},{},{},{},{},{}] else if id = 4 then [{},{},{},{},{},{},{},{},{},{},{},{},{},{},{}] else [] }
set_option maxHeartbeats 1000000 in
theorem f116_ok (c:GCur) (hc:c.Ok):FnW Tryz.prog 116 [.ptr [.im c.b.length (flat c.b),.int .i64 c.i,.int .i64 c.h]] (.v (.int .i64 ((curB c).1))) [.ptr [.im ((curB c).2).b.length (flat ((curB c).2).b),.int .i64 ((curB c).2).i,.int .i64 ((curB c).2).h]]:=by
  obtain ⟨b,i,h⟩:=c
  simp only [GCur.Ok] at hc
  obtain ⟨h1,h2,h3⟩:=hc
  obtain ⟨k,rfl⟩:=Int.eq_ofNat_of_zero_le h1
  refine FnW.of_AW TryzT_ok 1 (fn:=Tryz.f116) (by kernel_rfl) rfl (by kernel_rfl) rfl rfl rfl ?_; refine AW_of h116 TryzT_ok (by kernel_rfl) ?_
  rcases Nat.lt_or_ge k b.length with q1 | q1
  · have q2:(k:Int) < b.length:=by omega
    have q3:¬ b = []:=by rintro rfl; simp at q1
    have wi:IntKind.i64.wrap ((k:Int) + 1) = k + 1:=wrap64 (by omega) (by omega)
    have w8:IntKind.i64.wrap ((nth b k).toNat:Int) = (nth b k).toNat:=by have:=(nth b k).toNat_lt; exact wrap64 (by omega) (by omega)
    simp -dsimp [q1,ne_of_lt q1,q3,wi,w8]
    simp [curB,curX,curH,q1]
  · have q2:¬ (k:Int) < b.length:=by omega
    simp -dsimp [Nat.not_lt.2 q1,q1]
    simp [curB,curX,curH,Nat.not_lt.2 q1]
def newK (b:List UInt8):Nat → Int
  | 0 => 93901 + b.length
  | i + 1 => band (IntKind.i64.wrap (IntKind.i64.wrap (IntKind.i64.wrap (newK b i * 131) + (nth b i).toNat) + 7)) 1073741823
def curNew (b:List UInt8):GCur:=⟨b,0,newK b (min b.length 4000)⟩
theorem curNew_ok {b:List UInt8} (h:b.length ≤ 1048576):(curNew b).Ok:=by simp [curNew,GCur.Ok]; omega
@[simp] def h115:Hts:={ merge:=fun _ => false }
set_option maxHeartbeats 1000000 in
theorem f115_ok (b:List UInt8) (hb:b.length ≤ 1048576):FnR Tryz.prog 115 [.v (.im b.length (flat b))] (.ptr [.im ((curNew b)).b.length (flat ((curNew b)).b),.int .i64 ((curNew b)).i,.int .i64 ((curNew b)).h]):=by
  refine FnW.of_AW TryzT_ok 0 (fn:=Tryz.f115) (by kernel_rfl) rfl (by kernel_rfl) rfl rfl rfl ?_; refine AW_of h115 TryzT_ok (by kernel_rfl) ?_
  have w0:IntKind.i64.wrap (93901 + (b.length:Int)) = 93901 + b.length:=wrap64 (by omega) (by omega)
  simp -dsimp [w0]
  refine AWh_loop (fun i:Nat => i ≤ b.length ∧ i ≤ 4000) (fun i => mkE [(0,.c (.im b.length (flat b))),(3,.c (.int .i64 (newK b i))),(4,.c (.int .i64 i))] []) (fun i => b.length - i) 0 (Wk_to [0,3,4] [] rfl rfl (by simp [newK])) (by simp) ?_
  rintro i ⟨hi,h4⟩
  refine AW_of h115 TryzT_ok (by kernel_rfl) ?_
  have wi:IntKind.i64.wrap ((i:Int) + 1) = i + 1:=wrap64 (by omega) (by omega)
  rcases Nat.lt_or_ge i b.length with q1 | q1
  · rcases Nat.lt_or_ge i 4000 with q2 | q2
    · have q2':(i:Int) < 4000:=by omega
      have w8:IntKind.i64.wrap ((nth b i).toNat:Int) = (nth b i).toNat:=by have:=(nth b i).toNat_lt; exact wrap64 (by omega) (by omega)
      simp -dsimp [q1,ne_of_lt q1,q2,q2',w8,wi]
      exact Back_of (i + 1) [0,3,4] [] rfl rfl (by simp [newK]) (by omega) (by omega)
    · have e:i = 4000:=by omega
      have q2':¬ (i:Int) < 4000:=by omega
      simp -dsimp [q1,ne_of_lt q1,q2']
      simp [curNew,e,Nat.min_eq_right (by omega:4000 ≤ b.length)]
  · have e:i = b.length:=by omega
    simp -dsimp [Nat.not_lt.2 q1,q1]
    simp [curNew,e,Nat.min_eq_left (by omega:b.length ≤ 4000)]
def curN (c:GCur) (n:Int):Int × GCur :=
  if n ≤ 0 then (0,c) else if n ≤ 256 then ((curB c).1.tmod n,(curB c).2) else
  ((((curB c).1 * 16777216 + (curB (curB c).2).1 * 65536 + (curB (curB (curB c).2).2).1 * 256 + (curB (curB (curB (curB c).2).2).2).1)).tmod n,(curB (curB (curB (curB c).2).2).2).2)
theorem curN_ok {c:GCur} (h:c.Ok) (n:Int):(curN c n).2.Ok:=by
  unfold curN
  split
  · exact h
  split
  · exact curB_ok h
  · exact curB_ok (curB_ok (curB_ok (curB_ok h)))
theorem tmod_bd {a n:Int} (ha:0 ≤ a) (hn:0 < n):0 ≤ a.tmod n ∧ a.tmod n < n:=by
  rw [Int.tmod_eq_emod_of_nonneg ha]
  exact ⟨Int.emod_nonneg _ (by omega),Int.emod_lt_of_pos _ hn⟩
theorem curN_bd (c:GCur) {n:Int} (hn:0 < n):0 ≤ (curN c n).1 ∧ (curN c n).1 < n:=by
  have h1:=curB_bd c
  have h2:=curB_bd (curB c).2
  have h3:=curB_bd (curB (curB c).2).2
  have h4:=curB_bd (curB (curB (curB c).2).2).2
  unfold curN
  rw [if_neg (by omega)]
  split
  · exact tmod_bd h1.1 hn
  · exact tmod_bd (by omega) hn
@[simp] def h117:Hts:={ merge:=fun _ => false,lend:=fun f => if f = 116 then [.box []] else [] }
set_option maxHeartbeats 1000000 in
theorem f117_ok (c:GCur) (hc:c.Ok) (n:Int):FnW Tryz.prog 117 [.ptr [.im c.b.length (flat c.b),.int .i64 c.i,.int .i64 c.h],.v (.int .i64 n)] (.v (.int .i64 ((curN c n).1))) [.ptr [.im ((curN c n).2).b.length (flat ((curN c n).2).b),.int .i64 ((curN c n).2).i,.int .i64 ((curN c n).2).h],.any]:=by
  have h1:=curB_bd c
  have h2:=curB_bd (curB c).2
  have h3:=curB_bd (curB (curB c).2).2
  have h4:=curB_bd (curB (curB (curB c).2).2).2
  refine FnW.of_AW TryzT_ok 1 (fn:=Tryz.f117) (by kernel_rfl) rfl (by kernel_rfl) rfl rfl rfl ?_; refine AW_of h117 TryzT_ok (by kernel_rfl) ?_
  rcases Int.lt_or_le 0 n with q1 | q1
  rotate_left
  · have q1':¬ 0 < n:=by omega
    simp -dsimp [q1,q1']
    simp [curN,q1]
  have q1':¬ n ≤ 0:=by omega
  have q0:¬ n = 0:=by omega
  rcases Int.lt_or_le 256 n with q2 | q2
  rotate_left
  · simp -dsimp [q1,q1',q2]
    refine ACallW_go ?_
    refine ACallC_go (fun us => f116_ok c hc) ?_
    simp -dsimp [q0]
    simp [curN,q1',q2]
  have q2':¬ n ≤ 256:=by omega
  simp -dsimp [q1,q1',q2,q2']
  refine ACallW_go ?_
  refine ACallC_go (fun us => f116_ok c hc) ?_
  simp -dsimp
  refine ACallW_go ?_
  refine ACallC_go (fun us => f116_ok (curB c).2 (curB_ok hc)) ?_
  simp -dsimp
  refine ACallW_go ?_
  refine ACallC_go (fun us => f116_ok (curB (curB c).2).2 (curB_ok (curB_ok hc))) ?_
  simp -dsimp
  refine ACallW_go ?_
  refine ACallC_go (fun us => f116_ok (curB (curB (curB c).2).2).2 (curB_ok (curB_ok (curB_ok hc)))) ?_
  have w1:IntKind.i64.wrap ((curB c).1 * 16777216) = (curB c).1 * 16777216:=wrap64 (by omega) (by omega)
  have w2:IntKind.i64.wrap ((curB (curB c).2).1 * 65536) = (curB (curB c).2).1 * 65536:=wrap64 (by omega) (by omega)
  have w3:IntKind.i64.wrap ((curB (curB (curB c).2).2).1 * 256) = (curB (curB (curB c).2).2).1 * 256:=wrap64 (by omega) (by omega)
  have w4:IntKind.i64.wrap ((curB c).1 * 16777216 + (curB (curB c).2).1 * 65536) = (curB c).1 * 16777216 + (curB (curB c).2).1 * 65536:=wrap64 (by omega) (by omega)
  have w5:IntKind.i64.wrap ((curB c).1 * 16777216 + (curB (curB c).2).1 * 65536 + (curB (curB (curB c).2).2).1 * 256) = (curB c).1 * 16777216 + (curB (curB c).2).1 * 65536 + (curB (curB (curB c).2).2).1 * 256:=wrap64 (by omega) (by omega)
  have w6:IntKind.i64.wrap ((curB c).1 * 16777216 + (curB (curB c).2).1 * 65536 + (curB (curB (curB c).2).2).1 * 256 + (curB (curB (curB (curB c).2).2).2).1) = (curB c).1 * 16777216 + (curB (curB c).2).1 * 65536 + (curB (curB (curB c).2).2).1 * 256 + (curB (curB (curB (curB c).2).2).2).1:=wrap64 (by omega) (by omega)
  simp -dsimp [q0,w1,w2,w3,w4,w5,w6]
  simp [curN,q1',q2']
@[simp] def h130:Hts:={ merge:=fun _ => false,lend:=fun f => if f = 117 then [.box []] else [] }
theorem f130_ok (c:GCur) (hc:c.Ok) (n:Int):FnW Tryz.prog 130 [.ptr [.im c.b.length (flat c.b),.int .i64 c.i,.int .i64 c.h],.v (.int .i64 n)] (.v (.bool (((curN c n).1 == 0)))) [.ptr [.im ((curN c n).2).b.length (flat ((curN c n).2).b),.int .i64 ((curN c n).2).i,.int .i64 ((curN c n).2).h],.any]:=by
  refine FnW.of_AW TryzT_ok 1 (fn:=Tryz.f130) (by kernel_rfl) rfl (by kernel_rfl) rfl rfl rfl ?_; refine AW_of h130 TryzT_ok (by kernel_rfl) ?_
  simp -dsimp
  refine ACallW_go ?_
  refine ACallC_go (fun us => f117_ok c hc n) ?_
  simp -dsimp
def curPick {α:Type} [Cel α] (c:GCur) (l:List α):α × GCur:=(nth l (curN c l.length).1.toNat,(curN c l.length).2)
theorem curPick_ok {α:Type} [Cel α] {c:GCur} (h:c.Ok) (l:List α):(curPick c l).2.Ok:=curN_ok h _
theorem curPick_mem {α:Type} [Cel α] (c:GCur) {l:List α} (h:l ≠ []):(curPick c l).1 ∈ l:=by
  have:0 < l.length:=List.length_pos_iff.2 h
  have:=curN_bd c (n:=l.length) (by omega)
  exact nth_mem (by omega)
@[simp] def h160:Hts:={ merge:=fun _ => false,lend:=fun f => if f = 117 then [.box []] else [] }
theorem f160_ok (c:GCur) (hc:c.Ok) (l:List Int) (hl:l ≠ []):FnW Tryz.prog 160 [.ptr [.im c.b.length (flat c.b),.int .i64 c.i,.int .i64 c.h],.v (.ow 3 1 l.length (flat l))] (.v (.int .i64 ((curPick c l).1))) [.ptr [.im ((curPick c l).2).b.length (flat ((curPick c l).2).b),.int .i64 ((curPick c l).2).i,.int .i64 ((curPick c l).2).h],.any]:=by
  have h0:0 < l.length:=List.length_pos_iff.2 hl
  have hb:=curN_bd c (n:=l.length) (by omega)
  refine FnW.of_AW TryzT_ok 1 (fn:=Tryz.f160) (by kernel_rfl) rfl (by kernel_rfl) rfl rfl rfl ?_; refine AW_of h160 TryzT_ok (by kernel_rfl) ?_
  simp -dsimp
  refine ACallW_go ?_
  refine ACallC_go (fun us => f117_ok c hc l.length) ?_
  obtain ⟨m,hm⟩:=Int.eq_ofNat_of_zero_le hb.1
  rw [hm] at hb
  have q1:m < l.length:=by omega
  simp -dsimp [hm,q1,ne_of_lt q1,hl]
  simp [curPick,hm]
@[simp] def h270:Hts:={ merge:=fun _ => false,lend:=fun f => if f = 117 then [.box []] else [] }
theorem f270_ok (c:GCur) (hc:c.Ok) (l:List ByteArray) (hl:l ≠ []):FnW Tryz.prog 270 [.ptr [.im c.b.length (flat c.b),.int .i64 c.i,.int .i64 c.h],.v (.ow 9 1 l.length (flat l))] (.v (.str ((curPick c l).1))) [.ptr [.im ((curPick c l).2).b.length (flat ((curPick c l).2).b),.int .i64 ((curPick c l).2).i,.int .i64 ((curPick c l).2).h],.any]:=by
  have h0:0 < l.length:=List.length_pos_iff.2 hl
  have hb:=curN_bd c (n:=l.length) (by omega)
  refine FnW.of_AW TryzT_ok 1 (fn:=Tryz.f270) (by kernel_rfl) rfl (by kernel_rfl) rfl rfl rfl ?_; refine AW_of h270 TryzT_ok (by kernel_rfl) ?_
  simp -dsimp
  refine ACallW_go ?_
  refine ACallC_go (fun us => f117_ok c hc l.length) ?_
  obtain ⟨m,hm⟩:=Int.eq_ofNat_of_zero_le hb.1
  rw [hm] at hb
  have q1:m < l.length:=by omega
  simp -dsimp [hm,q1,ne_of_lt q1,hl]
  simp [curPick,hm]
end Am
namespace Am
open Go Go.Proofs
open Cel (cells)
set_option maxRecDepth 100000
def drawsK (c:GCur) (n:Int):Nat → List Int × GCur
  | 0 => ([],c)
  | i + 1 => ((drawsK c n i).1 ++ [(curN (drawsK c n i).2 n).1],(curN (drawsK c n i).2 n).2)
theorem drawsK_ok {c:GCur} (h:c.Ok) (n:Int):∀ i,(drawsK c n i).2.Ok
  | 0 => h
  | i + 1 => curN_ok (drawsK_ok h n i) n
theorem drawsK_len (c:GCur) (n:Int):∀ i,(drawsK c n i).1.length = i
  | 0 => rfl
  | i + 1 => by simp [drawsK,drawsK_len c n i]
def dotD (c:GCur):GDot × GCur:=(⟨(curN c 3).1,1 + (curN (curN c 3).2 5).1⟩,(curN (curN c 3).2 5).2)
theorem dotD_ok {c:GCur} (h:c.Ok):(dotD c).2.Ok:=curN_ok (curN_ok h _) _
def objs:List ByteArray:=[⟨#[97]⟩,⟨#[98]⟩,⟨#[116,97,108,108,121]⟩]
def keys:List ByteArray:=[⟨#[120]⟩,⟨#[121]⟩,⟨#[122,111,111]⟩]
def kinds:List Int:=[1,2,3,4,5,6,6,6,7]
def vals:List Int:=[0,1,7,999999]
theorem objs_ok (c:GCur):nameOk (curPick c objs).1 = true ∧ (curPick c objs).1.size ≤ 8:=by
  have h:=curPick_mem c (l:=objs) (by simp [objs])
  generalize (curPick c objs).1 = x at h
  simp only [objs,List.mem_cons,List.not_mem_nil,or_false] at h
  rcases h with rfl | rfl | rfl <;> decide
theorem keys_ok (c:GCur):nameOk (curPick c keys).1 = true ∧ (curPick c keys).1.size ≤ 8:=by
  have h:=curPick_mem c (l:=keys) (by simp [keys])
  generalize (curPick c keys).1 = x at h
  simp only [keys,List.mem_cons,List.not_mem_nil,or_false] at h
  rcases h with rfl | rfl | rfl <;> decide
theorem vals_ok (c:GCur):0 ≤ (curPick c vals).1 ∧ (curPick c vals).1 ≤ 999999:=by
  have h:=curPick_mem c (l:=vals) (by simp [vals])
  generalize (curPick c vals).1 = x at h
  simp only [vals,List.mem_cons,List.not_mem_nil,or_false] at h
  omega
theorem kinds_ok (c:GCur):1 ≤ (curPick c kinds).1 ∧ (curPick c kinds).1 ≤ 7:=by
  have h:=curPick_mem c (l:=kinds) (by simp [kinds])
  generalize (curPick c kinds).1 = x at h
  simp only [kinds,List.mem_cons,List.not_mem_nil,or_false] at h
  omega
@[simp] def h431:Hts:={ merge:=fun _ => false,lend:=fun f => if f = 117 then [.box []] else [] }
theorem f431_ok (c:GCur) (hc:c.Ok):FnW Tryz.prog 431 [.ptr [.im c.b.length (flat c.b),.int .i64 c.i,.int .i64 c.h]] (.agg [.int .i64 ((dotD c).1).rep,.int .i64 ((dotD c).1).seq]) [.ptr [.im ((dotD c).2).b.length (flat ((dotD c).2).b),.int .i64 ((dotD c).2).i,.int .i64 ((dotD c).2).h]]:=by
  have b1:=curN_bd (curN c 3).2 (n:=5) (by decide)
  refine FnW.of_AW TryzT_ok 1 (fn:=Tryz.f431) (by kernel_rfl) rfl (by kernel_rfl) rfl rfl rfl ?_; refine AW_of h431 TryzT_ok (by kernel_rfl) ?_
  simp -dsimp
  refine ACallW_go ?_
  refine ACallC_go (fun us => f117_ok c hc 3) ?_
  simp -dsimp
  refine ACallW_go ?_
  refine ACallC_go (fun us => f117_ok (curN c 3).2 (curN_ok hc 3) 5) ?_
  have w1:IntKind.i64.wrap (1 + (curN (curN c 3).2 5).1) = 1 + (curN (curN c 3).2 5).1:=wrap64 (by omega) (by omega)
  simp -dsimp [w1]
  simp [dotD]
@[simp] def h133:Hts:={ merge:=fun _ => false,lend:=fun f => if f = 270 then [.box [],.lend] else [] }
theorem f133_ok (c:GCur) (hc:c.Ok):FnW Tryz.prog 133 [.ptr [.im c.b.length (flat c.b),.int .i64 c.i,.int .i64 c.h]] (.v (.str ((curPick c objs).1))) [.ptr [.im ((curPick c objs).2).b.length (flat ((curPick c objs).2).b),.int .i64 ((curPick c objs).2).i,.int .i64 ((curPick c objs).2).h]]:=by
  refine FnW.of_AW TryzT_ok 1 (fn:=Tryz.f133) (by kernel_rfl) rfl (by kernel_rfl) rfl rfl rfl ?_; refine AW_of h133 TryzT_ok (by kernel_rfl) ?_
  simp -dsimp
  refine ACallW_go ?_
  refine ACallC_go (fun us => f270_ok c hc objs (by simp [objs])) ?_
  simp -dsimp
@[simp] def h134:Hts:={ merge:=fun _ => false,lend:=fun f => if f = 270 then [.box [],.lend] else [] }
theorem f134_ok (c:GCur) (hc:c.Ok):FnW Tryz.prog 134 [.ptr [.im c.b.length (flat c.b),.int .i64 c.i,.int .i64 c.h]] (.v (.str ((curPick c keys).1))) [.ptr [.im ((curPick c keys).2).b.length (flat ((curPick c keys).2).b),.int .i64 ((curPick c keys).2).i,.int .i64 ((curPick c keys).2).h]]:=by
  refine FnW.of_AW TryzT_ok 1 (fn:=Tryz.f134) (by kernel_rfl) rfl (by kernel_rfl) rfl rfl rfl ?_; refine AW_of h134 TryzT_ok (by kernel_rfl) ?_
  simp -dsimp
  refine ACallW_go ?_
  refine ACallC_go (fun us => f270_ok c hc keys (by simp [keys])) ?_
  simp -dsimp
@[simp] def h324:Hts:={ merge:=fun _ => false,lend:=fun f => if f = 117 then [.box []] else [] }
set_option maxHeartbeats 1000000 in
theorem f324_ok (c:GCur) (hc:c.Ok):FnW Tryz.prog 324 [.ptr [.im c.b.length (flat c.b),.int .i64 c.i,.int .i64 c.h]] (.v (.ow 3 1 ((drawsK c 5 3).1).length (flat ((drawsK c 5 3).1)))) [.ptr [.im ((drawsK c 5 3).2).b.length (flat ((drawsK c 5 3).2).b),.int .i64 ((drawsK c 5 3).2).i,.int .i64 ((drawsK c 5 3).2).h]]:=by
  refine FnW.of_AW TryzT_ok 1 (fn:=Tryz.f324) (by kernel_rfl) rfl (by kernel_rfl) rfl rfl rfl ?_; refine AW_of h324 TryzT_ok (by kernel_rfl) ?_
  simp -dsimp
  refine AWh_loop (fun i:Nat => i ≤ 3) (fun i => mkE [(0,.box 640000 0),(3,.arr 192),(4,.c (.int .i64 i))] [(640000,.box [.c (.im (drawsK c 5 i).2.b.length (flat (drawsK c 5 i).2.b)),.c (.int .i64 (drawsK c 5 i).2.i),.c (.int .i64 (drawsK c 5 i).2.h)]),(192,.arr 0 3 1 (drawsK c 5 i).1.length (flat (drawsK c 5 i).1))]) (fun i => 3 - i) 0 (Wk_to [0,3,4] [(640000,640000),(192,320)] rfl rfl (by simp [drawsK])) (by simp) ?_
  rintro i hi
  refine AW_of h324 TryzT_ok (by kernel_rfl) ?_
  have wi:IntKind.i64.wrap ((i:Int) + 1) = i + 1:=wrap64 (by omega) (by omega)
  have hl:=drawsK_len c 5 i
  rcases Nat.lt_or_ge i 3 with q1 | q1
  · have q1':(i:Int) < 3:=by omega
    simp -dsimp [q1']
    refine ACallW_go ?_
    refine ACallC_go (fun us => f117_ok (drawsK c 5 i).2 (drawsK_ok hc 5 i) 5) ?_
    simp -dsimp [wi]
    repeat (first|refine ⟨by omega,?_⟩|refine ⟨by simp [capMax];omega,?_⟩|refine ⟨⟨by omega,by omega⟩,?_⟩)
    exact Back_of (i + 1) [0,3,4] [(640000,640000),(192,896)] rfl rfl (by simp [drawsK]) (by omega) (by omega)
  · obtain rfl:i = 3:=by omega
    simp -dsimp
@[simp] def h135:Hts:={ merge:=fun _ => false }
set_option maxHeartbeats 1000000 in
theorem f135_ok (s:GState) (hs:s.cs.length ≤ 1073741824):FnR Tryz.prog 135 [.agg [.im s.know.length (flat s.know),.im s.tallies.length (flat s.tallies),.im s.lives.length (flat s.lives),.im s.cs.length (flat s.cs)]] (.v (.int .i64 (timeOf s))):=by
  refine FnW.of_AW TryzT_ok 0 (fn:=Tryz.f135) (by kernel_rfl) rfl (by kernel_rfl) rfl rfl rfl ?_; refine AW_of h135 TryzT_ok (by kernel_rfl) ?_
  simp -dsimp
  refine AWh_loop (fun i:Nat => i ≤ s.cs.length) (fun i => mkE [(1,.box 64 0),(3,.c (.int .i64 (timeK s.cs i))),(4,.c (.int .i64 i))] [(64,.box [.c (.im s.know.length (flat s.know)),.c (.im s.tallies.length (flat s.tallies)),.c (.im s.lives.length (flat s.lives)),.c (.im s.cs.length (flat s.cs))])]) (fun i => s.cs.length - i) 0 (Wk_to [1,3,4] [(64,64)] rfl rfl (by simp [timeK])) (by simp) ?_
  rintro i hi
  refine AW_of h135 TryzT_ok (by kernel_rfl) ?_
  have wi:IntKind.i64.wrap ((i:Int) + 1) = i + 1:=wrap64 (by omega) (by omega)
  rcases Nat.lt_or_ge i s.cs.length with q1 | q1
  · by_cases q2:timeK s.cs i < (nth s.cs i).time
    · simp -dsimp [q1,ne_of_lt q1,q2,wi]
      exact Back_of (i + 1) [1,3,4] [(64,64)] rfl rfl (by simp [timeK,q2]) (by omega) (by omega)
    · simp -dsimp [q1,ne_of_lt q1,q2,Int.not_lt.1 q2,wi]
      exact Back_of (i + 1) [1,3,4] [(64,64)] rfl rfl (by simp [timeK,q2]) (by omega) (by omega)
  · obtain rfl:i = s.cs.length:=by omega
    simp -dsimp
    simp [timeOf]
end Am
namespace Am
open Go Go.Proofs
open Cel (cells)
set_option maxRecDepth 100000
theorem str_nilV {s:ByteArray}:(s.toList = [] ↔ s = ⟨#[]⟩):=by
  rw [ByteArray.toList_eq]
  constructor
  · intro h
    cases s
    simp only at h
    simp [Array.toList_eq_nil_iff.1 h]
  · rintro rfl; rfl
def edK (c:GCur):Int × GCur:=curPick c kinds
def edO (c:GCur):ByteArray × GCur:=curPick (edK c).2 objs
def edY (c:GCur):ByteArray × GCur:=if spIn (edK c).1 2 5 = true then curPick (edO c).2 keys else (⟨#[]⟩,(edO c).2)
def edV (c:GCur):Int × GCur:=if valued (edK c).1 = true then curPick (edY c).2 vals else (0,(edY c).2)
def edP (c:GCur):Int × GCur:=if 6 ≤ (edK c).1 then curN (edV c).2 3 else (0,(edV c).2)
def editD (c:GCur):GEdit × GCur:=(⟨(edK c).1,(edO c).1,(edY c).1,(edV c).1,(edP c).1⟩,(edP c).2)
theorem edO_ok {c:GCur} (h:c.Ok):(edO c).2.Ok:=curPick_ok (curPick_ok h _) _
theorem edY_ok {c:GCur} (h:c.Ok):(edY c).2.Ok:=by
  unfold edY
  split
  · exact curPick_ok (edO_ok h) _
  · exact edO_ok h
theorem edV_ok {c:GCur} (h:c.Ok):(edV c).2.Ok:=by
  unfold edV
  split
  · exact curPick_ok (edY_ok h) _
  · exact edY_ok h
theorem editD_ok {c:GCur} (h:c.Ok):(editD c).2.Ok:=by
  show (edP c).2.Ok
  unfold edP
  split
  · exact curN_ok (edV_ok h) _
  · exact edV_ok h
theorem editD_good (c:GCur):editOk (editD c).1 = true ∧ (editD c).1.obj.size ≤ 8 ∧ (editD c).1.key.size ≤ 8 ∧ 0 ≤ (editD c).1.place ∧ (editD c).1.place ≤ 2:=by
  have hk:=kinds_ok c
  have ho:=objs_ok (edK c).2
  have hp:0 ≤ (edP c).1 ∧ (edP c).1 ≤ 2 ∧ ((edP c).1 = 0 ∨ 6 ≤ (edK c).1):=by
    unfold edP
    split
    · have:=curN_bd (edV c).2 (n:=3) (by decide); omega
    · exact ⟨by simp,by simp,.inl rfl⟩
  have hy:(edY c).1.size ≤ 8 ∧ ((spIn (edK c).1 2 5 = true ∧ nameOk (edY c).1 = true) ∨ (spIn (edK c).1 2 5 = false ∧ (edY c).1 = ⟨#[]⟩)):=by
    unfold edY
    split
    · rename_i h; have:=keys_ok (edO c).2; exact ⟨this.2,.inl ⟨h,this.1⟩⟩
    · rename_i h; exact ⟨Nat.zero_le _,.inr ⟨by simpa using h,rfl⟩⟩
  have hv:0 ≤ (edV c).1 ∧ (edV c).1 ≤ 999999 ∧ ((edV c).1 = 0 ∨ valued (edK c).1 = true):=by
    unfold edV
    split
    · rename_i h; have:=vals_ok (edY c).2; exact ⟨this.1,this.2,.inr h⟩
    · simp
  refine ⟨?_,ho.2,hy.1,hp.1,hp.2.1⟩
  show editOk ⟨(edK c).1,(edO c).1,(edY c).1,(edV c).1,(edP c).1⟩ = true
  have ho':nameOk (edO c).1 = true:=ho.1
  generalize hK:(edK c).1 = k at *
  have hk':1 ≤ k ∧ k ≤ 7:=by rw [← hK]; exact hk
  simp only [editOk,plain,Bool.and_eq_true,Bool.or_eq_true,decide_eq_true_eq,beq_iff_eq]
  refine ⟨⟨⟨⟨by simp [spIn]; omega,ho'⟩,?_⟩,?_⟩,by omega⟩
  · rcases hy.2 with ⟨h1,h2⟩ | ⟨h1,h2⟩
    · rw [if_pos h1]; exact h2
    · rw [if_neg (by simp [h1]),h2]; exact decide_eq_true (str_nilV.2 rfl)
  · rcases hv.2.2 with h | h
    · exact .inl h
    · exact .inr ⟨h,by simp [spIn]; omega⟩
@[simp] def h155:Hts:={ merge:=fun _ => false,mergeF:=fun _ => false,lend:=fun f => if f = 270 || f = 160 then [.box [],.lend] else if f = 133 || f = 134 || f = 117 then [.box []] else [] }
set_option maxHeartbeats 4000000 in
theorem f155_ok (c:GCur) (hc:c.Ok):FnW Tryz.prog 155 [.ptr [.im c.b.length (flat c.b),.int .i64 c.i,.int .i64 c.h]] (.agg [.int .i64 ((editD c).1).kind,.str ((editD c).1).obj,.str ((editD c).1).key,.int .i64 ((editD c).1).val,.int .i64 ((editD c).1).place]) [.ptr [.im ((editD c).2).b.length (flat ((editD c).2).b),.int .i64 ((editD c).2).i,.int .i64 ((editD c).2).h]]:=by
  have hk:=kinds_ok c
  refine FnW.of_AW TryzT_ok 1 (fn:=Tryz.f155) (by kernel_rfl) rfl (by kernel_rfl) rfl rfl rfl ?_; refine AW_of h155 TryzT_ok (by kernel_rfl) ?_
  simp -dsimp
  refine ACallW_go ?_
  refine ACallC_go (fun us => f160_ok c hc kinds (by simp [kinds])) ?_
  simp -dsimp
  refine ACallW_go ?_
  refine ACallC_of (fun us => f133_ok (edK c).2 (curPick_ok hc _)) (by intro us; simp -dsimp [edK]; exact ⟨rfl,rfl⟩) ?_
  simp -dsimp
  refine ACallK_of (f281_ok _) ?_
  have key:(curPick c kinds).1 = 1 ∨ (curPick c kinds).1 = 2 ∨ (curPick c kinds).1 = 3 ∨ (curPick c kinds).1 = 4 ∨ (curPick c kinds).1 = 5 ∨ (curPick c kinds).1 = 6 ∨ (curPick c kinds).1 = 7:=by omega
  rcases key with e | e | e | e | e | e | e
  · have s1:spIn 1 2 5 = false:=by decide
    have s2:valued 1 = true:=by decide
    simp -dsimp [e,s1]
    refine ACallK_of (f282_ok _) ?_
    simp -dsimp [e,s2]
    refine ACallW_go ?_
    refine ACallC_of (fun us => f160_ok (edO c).2 (edO_ok hc) vals (by simp [vals])) (by intro us; simp -dsimp [edO,edK]; exact ⟨rfl,rfl⟩) ?_
    simp -dsimp [e]
    simp [editD,edP,edV,edY,edO,edK,e,s1,s2]
  · have s1:spIn 2 2 5 = true:=by decide
    have s2:valued 2 = false:=by decide
    simp -dsimp [e,s1]
    refine ACallW_go ?_
    refine ACallC_of (fun us => f134_ok (edO c).2 (edO_ok hc)) (by intro us; simp -dsimp [edO,edK]; exact ⟨rfl,rfl⟩) ?_
    simp -dsimp [e]
    refine ACallK_of (f282_ok _) ?_
    simp -dsimp [e,s2]
    simp [editD,edP,edV,edY,edO,edK,e,s1,s2]
  · have s1:spIn 3 2 5 = true:=by decide
    have s2:valued 3 = false:=by decide
    simp -dsimp [e,s1]
    refine ACallW_go ?_
    refine ACallC_of (fun us => f134_ok (edO c).2 (edO_ok hc)) (by intro us; simp -dsimp [edO,edK]; exact ⟨rfl,rfl⟩) ?_
    simp -dsimp [e]
    refine ACallK_of (f282_ok _) ?_
    simp -dsimp [e,s2]
    simp [editD,edP,edV,edY,edO,edK,e,s1,s2]
  · have s1:spIn 4 2 5 = true:=by decide
    have s2:valued 4 = true:=by decide
    simp -dsimp [e,s1]
    refine ACallW_go ?_
    refine ACallC_of (fun us => f134_ok (edO c).2 (edO_ok hc)) (by intro us; simp -dsimp [edO,edK]; exact ⟨rfl,rfl⟩) ?_
    simp -dsimp [e]
    refine ACallK_of (f282_ok _) ?_
    simp -dsimp [e,s2]
    refine ACallW_go ?_
    refine ACallC_of (fun us => f160_ok (curPick (edO c).2 keys).2 (curPick_ok (edO_ok hc) _) vals (by simp [vals])) (by intro us; simp -dsimp [edO,edK]; exact ⟨rfl,rfl⟩) ?_
    simp -dsimp [e]
    simp [editD,edP,edV,edY,edO,edK,e,s1,s2]
  · have s1:spIn 5 2 5 = true:=by decide
    have s2:valued 5 = false:=by decide
    simp -dsimp [e,s1]
    refine ACallW_go ?_
    refine ACallC_of (fun us => f134_ok (edO c).2 (edO_ok hc)) (by intro us; simp -dsimp [edO,edK]; exact ⟨rfl,rfl⟩) ?_
    simp -dsimp [e]
    refine ACallK_of (f282_ok _) ?_
    simp -dsimp [e,s2]
    simp [editD,edP,edV,edY,edO,edK,e,s1,s2]
  · have s1:spIn 6 2 5 = false:=by decide
    have s2:valued 6 = true:=by decide
    simp -dsimp [e,s1]
    refine ACallK_of (f282_ok _) ?_
    simp -dsimp [e,s2]
    refine ACallW_go ?_
    refine ACallC_of (fun us => f160_ok (edO c).2 (edO_ok hc) vals (by simp [vals])) (by intro us; simp -dsimp [edO,edK]; exact ⟨rfl,rfl⟩) ?_
    simp -dsimp [e]
    refine ACallW_go ?_
    refine ACallC_of (fun us => f117_ok (curPick (edO c).2 vals).2 (curPick_ok (edO_ok hc) _) 3) (by intro us; simp -dsimp [edO,edK]; exact ⟨rfl,rfl⟩) ?_
    simp -dsimp [e]
    simp [editD,edP,edV,edY,edO,edK,e,s1,s2]
  · have s1:spIn 7 2 5 = false:=by decide
    have s2:valued 7 = false:=by decide
    simp -dsimp [e,s1]
    refine ACallK_of (f282_ok _) ?_
    simp -dsimp [e,s2]
    refine ACallW_go ?_
    refine ACallC_of (fun us => f117_ok (edO c).2 (edO_ok hc) 3) (by intro us; simp -dsimp [edO,edK]; exact ⟨rfl,rfl⟩) ?_
    simp -dsimp [e]
    simp [editD,edP,edV,edY,edO,edK,e,s1,s2]
end Am
namespace Am
open Go Go.Proofs
open Cel (cells)
set_option maxRecDepth 100000
def grAct (s:GState) (c:GCur):GAct × Int:=actOf s (curN c 3).1 (timeOf s + 1 + (curN (editD (curN c 3).2).2 2).1) (editD (curN c 3).2).1
def grCur (c:GCur):GCur:=(curN (editD (curN c 3).2).2 2).2
def grS (s:GState) (c:GCur):GState:=if (grAct s c).2 = 0 then (doAct s (grAct s c).1).1 else s
def grownK (c:GCur) (s:GState):Nat → GState × GCur
  | 0 => (s,c)
  | i + 1 => (grS (grownK c s i).1 (grownK c s i).2,grCur (grownK c s i).2)
theorem grCur_ok {c:GCur} (h:c.Ok):(grCur c).Ok:=curN_ok (editD_ok (curN_ok h _)) _
theorem grownK_cur {c:GCur} (h:c.Ok) (s:GState):∀ i,(grownK c s i).2.Ok
  | 0 => h
  | i + 1 => grCur_ok (grownK_cur h s i)
theorem grS_sok {s:GState} (h:SOK s) (c:GCur):SOK (grS s c):=by
  unfold grS
  split
  · exact sok_of (doAct_sok (of_sok h))
  · exact h
theorem grownK_sok {s:GState} (h:SOK s) (c:GCur):∀ i,SOK (grownK c s i).1
  | 0 => h
  | i + 1 => grS_sok (grownK_sok h c i) _
def stateD (c:GCur):GState × GCur:=grownK (curN c 9).2 stateNew (2 + (curN c 9).1).toNat
theorem stateD_sok (c:GCur):SOK (stateD c).1:=grownK_sok stateNew_sok _ _
@[simp] def h268:Hts:={ merge:=fun _ => false,mergeF:=fun _ => false,lend:=fun f => if f = 117 || f = 155 then [.box []] else [],dr:=fun id => if id = 6 then [{ mn:=[640000],mb:=[25,28,10] },{ mn:=[640000],mb:=[25,28,10] },{ mb:=[10] },{ cr:=true,mb:=[10] },{ mn:=[640000],mb:=[28,10] },{ mb:=[25,10] },{ wr:=[640000],cr:=true,mb:=[10] },{ mb:=[10] },{ mn:=[640000],mb:=[25,28,10] },{ cr:=true,mb:=[10] },{ mb:=[10] },{ mb:=[10] },{ mn:=[640],mb:=[10] },{ mn:=[640000],cr:=true,mb:=[25,28,31] },{ wr:=[640] },{}] else [] }
set_option maxHeartbeats 8000000 in
theorem f268_ok (c:GCur) (hc:c.Ok) (s:GState) (hs:SOK s) (n:Nat) (hn:n ≤ 1000):FnW Tryz.prog 268 [.ptr [.im c.b.length (flat c.b),.int .i64 c.i,.int .i64 c.h],.agg [.ow 3 1 s.know.length (flat s.know),.ow 179 3 s.tallies.length (flat s.tallies),.ow 159 6 s.lives.length (flat s.lives),.ow 72 8 s.cs.length (flat s.cs)],.v (.int .i64 n)] (.agg [.ow 3 1 ((grownK c s n).1).know.length (flat ((grownK c s n).1).know),.ow 179 3 ((grownK c s n).1).tallies.length (flat ((grownK c s n).1).tallies),.ow 159 6 ((grownK c s n).1).lives.length (flat ((grownK c s n).1).lives),.ow 72 8 ((grownK c s n).1).cs.length (flat ((grownK c s n).1).cs)]) [.ptr [.im ((grownK c s n).2).b.length (flat ((grownK c s n).2).b),.int .i64 ((grownK c s n).2).i,.int .i64 ((grownK c s n).2).h],.any,.any]:=by
  refine FnW.of_AW TryzT_ok 1 (fn:=Tryz.f268) (by kernel_rfl) rfl (by kernel_rfl) rfl rfl rfl ?_; refine AW_of h268 TryzT_ok (by kernel_rfl) ?_
  simp -dsimp
  refine AWh_loop (fun i:Nat => i ≤ n) (fun i => mkE [(0,.box 640000 0),(2,.c (.int .i64 n)),(4,.box 256 0),(6,.box 384 0),(7,.c (.int .i64 i))] [(640000,.box [.c (.im ((grownK c s i).2).b.length (flat ((grownK c s i).2).b)),.c (.int .i64 ((grownK c s i).2).i),.c (.int .i64 ((grownK c s i).2).h)]),(256,.box [.arr 640064,.arr 640065,.arr 640066,.arr 640067]),(640064,.arr 0 3 1 (grownK c s i).1.know.length (flat (grownK c s i).1.know)),(640065,.arr 0 179 3 (grownK c s i).1.tallies.length (flat (grownK c s i).1.tallies)),(640066,.arr 0 159 6 (grownK c s i).1.lives.length (flat (grownK c s i).1.lives)),(640067,.arr 0 72 8 (grownK c s i).1.cs.length (flat (grownK c s i).1.cs)),(384,.box [.nil,.nil,.nil,.nil])]) (fun i => n - i) 0 (Wk_to [0,2,4,6,7] [(640000,640000),(256,256),(640064,640064),(640065,640065),(640066,640066),(640067,640067),(384,384)] rfl rfl (by simp [grownK])) (by simp) ?_
  rintro i hi
  have hC:=grownK_cur hc s i
  have hS:=grownK_sok hs c i
  have hO:=sok_Ok hS
  have hO2:=hO
  simp only [GState.Ok] at hO2
  have e1:(grownK c s (i + 1)).1 = grS (grownK c s i).1 (grownK c s i).2:=rfl
  have e2:(grownK c s (i + 1)).2 = grCur (grownK c s i).2:=rfl
  generalize f1:(grownK c s i).1 = s1 at *
  generalize f2:(grownK c s i).2 = c1 at *
  obtain ⟨g1,g2,g3,g4,g5⟩:=editD_good (curN c1 3).2
  have ht:=timeOf_bd hS
  have hb:=curN_bd (editD (curN c1 3).2).2 (n:=2) (by decide)
  have wi:IntKind.i64.wrap ((i:Int) + 1) = i + 1:=wrap64 (by omega) (by omega)
  have w1:IntKind.i64.wrap (timeOf s1 + 1) = timeOf s1 + 1:=wrap64 (by omega) (by omega)
  have w2:IntKind.i64.wrap (timeOf s1 + 1 + (curN (editD (curN c1 3).2).2 2).1) = timeOf s1 + 1 + (curN (editD (curN c1 3).2).2 2).1:=wrap64 (by omega) (by omega)
  refine AW_of h268 TryzT_ok (by kernel_rfl) ?_
  rcases Nat.lt_or_ge i n with q1 | q1
  · simp -dsimp [q1]
    refine ACallW_go ?_
    refine ACallC_go (fun us => f117_ok c1 hC 3) ?_
    simp -dsimp
    refine ACallW_go ?_
    refine ACallC_go (fun us => f155_ok (curN c1 3).2 (curN_ok hC _)) ?_
    simp -dsimp
    refine ACallK_of (f135_ok s1 (by omega)) ?_
    simp -dsimp [w1]
    refine ACallW_go ?_
    refine ACallC_go (fun us => f117_ok (editD (curN c1 3).2).2 (editD_ok (curN_ok hC _)) 2) ?_
    simp -dsimp [w2]
    refine ACallK_of (f32_ok s1 (curN c1 3).1 (timeOf s1 + 1 + (curN (editD (curN c1 3).2).2 2).1) (editD (curN c1 3).2).1 hO (by omega) (by omega) (by omega)) ?_
    have hA:actOf s1 (curN c1 3).1 (timeOf s1 + 1 + (curN (editD (curN c1 3).2).2 2).1) (editD (curN c1 3).2).1 = grAct s1 c1:=rfl
    have hAo:(grAct s1 c1).1.Ok:=actOf_ok hO (by omega) (by omega)
    rw [hA]
    by_cases q:(grAct s1 c1).2 = 0
    · simp -dsimp [q]
      refine ACallK_of (f37_ok s1 (grAct s1 c1).1 hO hAo) ?_
      simp -dsimp [wi]
      exact Back_of (i + 1) [0,2,4,6,7] [(640000,640000),(256,256),(640064,2496),(640065,2497),(640066,2498),(640067,2499),(384,384)] rfl rfl (by simp [e1,e2,grS,grCur,q]) (by omega) (by omega)
    · simp -dsimp [q,wi]
      exact Back_of (i + 1) [0,2,4,6,7] [(640000,640000),(256,256),(640064,640064),(640065,640065),(640066,640066),(640067,640067),(384,384)] rfl rfl (by simp [e1,e2,grS,grCur,q]) (by omega) (by omega)
  · obtain rfl:i = n:=by omega
    simp -dsimp
    rw [f1,f2]
    simp
@[simp] def h154:Hts:={ merge:=fun _ => false,mergeF:=fun _ => false,lend:=fun f => if f = 117 then [.box []] else if f = 268 then [.box [],.lend] else [] }
set_option maxHeartbeats 2000000 in
theorem f154_ok (c:GCur) (hc:c.Ok):FnW Tryz.prog 154 [.ptr [.im c.b.length (flat c.b),.int .i64 c.i,.int .i64 c.h]] (.agg [.ow 3 1 ((stateD c).1).know.length (flat ((stateD c).1).know),.ow 179 3 ((stateD c).1).tallies.length (flat ((stateD c).1).tallies),.ow 159 6 ((stateD c).1).lives.length (flat ((stateD c).1).lives),.ow 72 8 ((stateD c).1).cs.length (flat ((stateD c).1).cs)]) [.ptr [.im ((stateD c).2).b.length (flat ((stateD c).2).b),.int .i64 ((stateD c).2).i,.int .i64 ((stateD c).2).h]]:=by
  have hb:=curN_bd c (n:=9) (by decide)
  obtain ⟨m,hm⟩:=Int.eq_ofNat_of_zero_le (by omega:0 ≤ 2 + (curN c 9).1)
  have w1:IntKind.i64.wrap (2 + (curN c 9).1) = m:=by rw [hm]; exact wrap64 (by omega) (by omega)
  refine FnW.of_AW TryzT_ok 1 (fn:=Tryz.f154) (by kernel_rfl) rfl (by kernel_rfl) rfl rfl rfl ?_; refine AW_of h154 TryzT_ok (by kernel_rfl) ?_
  simp -dsimp
  refine ACallK_of (f118_ok) ?_
  simp -dsimp
  refine ACallW_go ?_
  refine ACallC_go (fun us => f117_ok c hc 9) ?_
  simp -dsimp [w1]
  refine ACallW_go ?_
  refine ACallC_go (fun us => f268_ok (curN c 9).2 (curN_ok hc _) stateNew stateNew_sok m (by omega)) ?_
  simp -dsimp
  simp [stateD,hm]
end Am
namespace Am
open Go Go.Proofs
open Cel (cells)
set_option maxRecDepth 100000
def tA:ByteArray:=⟨#[97]⟩
def tB:ByteArray:=⟨#[98]⟩
def tX:ByteArray:=⟨#[120]⟩
def anyM (k y:Int) (s:GState):GState :=
  if k = 0 then ⟨s.know.set (y.tmod 3).toNat (nth ([0,-1,1001]:List Int) (y.tmod 3).toNat),s.tallies,s.lives,s.cs⟩
  else if k = 1 then ⟨s.know,s.tallies ++ [⟨tA,y.tmod 4,y⟩],s.lives,s.cs⟩
  else if k = 2 then ⟨s.know,s.tallies,s.lives ++ [⟨y.tmod 2 == 0,tA,tX,y.tmod 3,⟨y.tmod 4,1 + y.tmod 5⟩⟩],s.cs⟩
  else if k = 3 then ⟨s.know,s.tallies,s.lives,s.cs ++ [⟨tA,⟨2,1 + y.tmod 9⟩,y.tmod 9,⟨0,y.tmod 3⟩,0,false⟩]⟩
  else if k = 4 then (if 0 < s.cs.length then ⟨s.know,s.tallies,s.lives,s.cs.set (y.tmod s.cs.length).toNat { nth s.cs (y.tmod s.cs.length).toNat with obj:=tB }⟩ else s)
  else s
def anyK (c:GCur):Int × GCur:=curN c 14
def anyY (c:GCur):Int × GCur:=curN (anyK c).2 60
def anyS (c:GCur):GState × GCur:=stateD (anyY c).2
def anyD (c:GCur):GState × GCur:=(anyM (anyK c).1 (anyY c).1 (anyS c).1,(anyS c).2)
theorem set_mem' {α:Type} {l:List α} {i:Nat} {y x:α} (h:x ∈ l.set i y):x = y ∨ x ∈ l:=by
  rcases List.mem_or_eq_of_mem_set h with h | h
  · exact .inr h
  · exact .inl h
theorem anyM_Ok (k y:Int) {s:GState} (h:SOK s):(anyM k y s).Ok:=by
  have hO:=sok_Ok h
  have h1:=h.t1
  have h2:=h.l1
  have h3:=h.c1
  have sA:tA.size ≤ 1073741824:=by decide
  have sB:tB.size ≤ 1073741824:=by decide
  have sX:tX.size ≤ 1073741824:=by decide
  simp only [GState.Ok] at hO
  obtain ⟨o0,o1,o2,o3,o4,o5,o6⟩:=hO
  unfold anyM
  split
  · simp only [GState.Ok,List.length_set]; exact ⟨o0,o1,o2,o3,o4,o5,o6⟩
  split
  · simp only [GState.Ok,List.length_append,List.length_singleton]
    refine ⟨o0,by omega,fun z hz => ?_,o3,o4,o5,o6⟩
    rcases List.mem_append.1 hz with hz | hz
    · exact o2 z hz
    · rw [List.mem_singleton.1 hz]; simp only [GTally.Ok]; exact sA
  split
  · simp only [GState.Ok,List.length_append,List.length_singleton]
    refine ⟨o0,o1,o2,by omega,fun z hz => ?_,o5,o6⟩
    rcases List.mem_append.1 hz with hz | hz
    · exact o4 z hz
    · rw [List.mem_singleton.1 hz]; simp only [GLive.Ok]; exact ⟨sA,sX⟩
  split
  · simp only [GState.Ok,List.length_append,List.length_singleton]
    refine ⟨o0,o1,o2,o3,o4,by omega,fun z hz => ?_⟩
    rcases List.mem_append.1 hz with hz | hz
    · exact o6 z hz
    · rw [List.mem_singleton.1 hz]; simp only [GCell.Ok]; exact sA
  split
  · split
    · simp only [GState.Ok,List.length_set]
      refine ⟨o0,o1,o2,o3,o4,o5,fun z hz => ?_⟩
      rcases set_mem' hz with rfl | hz
      · simp only [GCell.Ok]; exact sB
      · exact o6 z hz
    · simp only [GState.Ok]; exact ⟨o0,o1,o2,o3,o4,o5,o6⟩
  · simp only [GState.Ok]; exact ⟨o0,o1,o2,o3,o4,o5,o6⟩
theorem anyD_Ok (c:GCur):(anyD c).1.Ok:=anyM_Ok _ _ (stateD_sok _)
@[simp] def h131:Hts:={ merge:=fun _ => false,mergeF:=fun _ => false,lend:=fun f => if f = 117 || f = 154 then [.box []] else [],dr:=fun id => if id = 6 then [{ mb:=[20] },{ mb:=[20] },{ mb:=[20] },{ mb:=[20] },{ cr:=true },{ mb:=[20] },{ mb:=[20] },{},{},{ wr:=[768] },{ wr:=[768] }] else if id = 15 then [{},{},{},{},{},{},{},{},{ wr:=[771] },{ wr:=[771] }] else [] }
set_option maxHeartbeats 8000000 in
theorem f131_ok (c:GCur) (hc:c.Ok):FnW Tryz.prog 131 [.ptr [.im c.b.length (flat c.b),.int .i64 c.i,.int .i64 c.h]] (.agg [.ow 3 1 ((anyD c).1).know.length (flat ((anyD c).1).know),.ow 179 3 ((anyD c).1).tallies.length (flat ((anyD c).1).tallies),.ow 159 6 ((anyD c).1).lives.length (flat ((anyD c).1).lives),.ow 72 8 ((anyD c).1).cs.length (flat ((anyD c).1).cs)]) [.ptr [.im ((anyD c).2).b.length (flat ((anyD c).2).b),.int .i64 ((anyD c).2).i,.int .i64 ((anyD c).2).h]]:=by
  have hk:=curN_bd c (n:=14) (by decide)
  have hy:=curN_bd (curN c 14).2 (n:=60) (by decide)
  have hS:SOK (stateD (curN (curN c 14).2 60).2).1:=stateD_sok _
  have hO:=sok_Ok hS
  have hO2:=hO
  simp only [GState.Ok] at hO2
  have d1:(anyD c).1 = anyM (curN c 14).1 (curN (curN c 14).2 60).1 (stateD (curN (curN c 14).2 60).2).1:=rfl
  have d2:(anyD c).2 = (stateD (curN (curN c 14).2 60).2).2:=rfl
  rw [d1,d2]
  refine FnW.of_AW TryzT_ok 1 (fn:=Tryz.f131) (by kernel_rfl) rfl (by kernel_rfl) rfl rfl rfl ?_; refine AW_of h131 TryzT_ok (by kernel_rfl) ?_
  simp -dsimp
  refine ACallW_go ?_
  refine ACallC_go (fun us => f117_ok c hc 14) ?_
  simp -dsimp
  refine ACallW_go ?_
  refine ACallC_go (fun us => f117_ok (curN c 14).2 (curN_ok hc _) 60) ?_
  simp -dsimp
  refine ACallW_go ?_
  refine ACallC_go (fun us => f154_ok (curN (curN c 14).2 60).2 (curN_ok (curN_ok hc _) _)) ?_
  simp -dsimp
  refine ACallK_of (f147_ok (stateD (curN (curN c 14).2 60).2).1 hO) ?_
  generalize (stateD (curN (curN c 14).2 60).2).1 = s at *
  generalize (stateD (curN (curN c 14).2 60).2).2 = c1 at *
  generalize (curN (curN c 14).2 60).1 = y at *
  generalize (curN c 14).1 = k at *
  have hkl:=hS.k
  simp only [knowOk,Bool.and_eq_true,decide_eq_true_eq] at hkl
  have hk3:=hkl.1
  have tm:∀ n:Int,0 < n → ∃ m:Nat,y.tmod n = m ∧ (m:Int) < n:=fun n hn => by
    have:=tmod_bd hy.1 hn
    exact ⟨(y.tmod n).toNat,by omega,by omega⟩
  by_cases k0:k = 0
  · obtain ⟨m,e3,m3⟩:=tm 3 (by omega)
    subst k0
    have l0:0 < s.know.length:=by omega
    have l1:1 < s.know.length:=by omega
    have l2:2 < s.know.length:=by omega
    obtain h0 | h0 | h0:m = 0 ∨ m = 1 ∨ m = 2:=by omega
    · subst h0
      have e3:y.tmod 3 = 0:=by simpa using e3
      simp -dsimp [e3,l0,ne_of_lt l0]
      repeat (first|refine ⟨by omega,?_⟩|refine ⟨by simp [capMax];omega,?_⟩|refine ⟨⟨by omega,by omega⟩,?_⟩)
      simp [anyM,e3,nth]
    · subst h0
      have e3:y.tmod 3 = 1:=by simpa using e3
      simp -dsimp [e3,l1,ne_of_lt l1]
      repeat (first|refine ⟨by omega,?_⟩|refine ⟨by simp [capMax];omega,?_⟩|refine ⟨⟨by omega,by omega⟩,?_⟩)
      simp [anyM,e3,nth]
    · subst h0
      have e3:y.tmod 3 = 2:=by simpa using e3
      simp -dsimp [e3,l2,ne_of_lt l2]
      repeat (first|refine ⟨by omega,?_⟩|refine ⟨by simp [capMax];omega,?_⟩|refine ⟨⟨by omega,by omega⟩,?_⟩)
      simp [anyM,e3,nth]
  by_cases k1:k = 1
  · subst k1
    simp -dsimp
    repeat (first|refine ⟨by omega,?_⟩|refine ⟨by simp [capMax];omega,?_⟩|refine ⟨⟨by omega,by omega⟩,?_⟩)
    simp [anyM,tA]
  by_cases k2:k = 2
  · obtain ⟨m5,e5,b5⟩:=tm 5 (by omega)
    have w5:IntKind.i64.wrap (1 + (m5:Int)) = 1 + m5:=wrap64 (by omega) (by omega)
    subst k2
    simp -dsimp [e5,w5]
    repeat (first|refine ⟨by omega,?_⟩|refine ⟨by simp [capMax];omega,?_⟩|refine ⟨⟨by omega,by omega⟩,?_⟩)
    simp [anyM,tA,tX,e5]
  by_cases k3:k = 3
  · obtain ⟨m9,e9,b9⟩:=tm 9 (by omega)
    have w9:IntKind.i64.wrap (1 + (m9:Int)) = 1 + m9:=wrap64 (by omega) (by omega)
    subst k3
    simp -dsimp [e9,w9]
    repeat (first|refine ⟨by omega,?_⟩|refine ⟨by simp [capMax];omega,?_⟩|refine ⟨⟨by omega,by omega⟩,?_⟩)
    simp [anyM,tA,e9]
  by_cases k4:k = 4
  · subst k4
    rcases Nat.eq_zero_or_pos s.cs.length with z | z
    · have zn:¬ 0 < s.cs.length:=by omega
      have ze:s.cs = []:=List.eq_nil_of_length_eq_zero z
      simp -dsimp [z,ze]
      simp [anyM,zn,ze]
    · obtain ⟨m,em,bm⟩:=tm s.cs.length (by omega)
      have q1:m < s.cs.length:=by omega
      have zl:¬ s.cs.length = 0:=by omega
      have ze:¬ s.cs = []:=fun e => by rw [e] at z; simp at z
      simp -dsimp [em,q1,ne_of_lt q1,z,ze,zl]
      repeat (first|refine ⟨by omega,?_⟩|refine ⟨by simp [capMax];omega,?_⟩|refine ⟨⟨by omega,by omega⟩,?_⟩)
      simp [anyM,z,em,tB]
  simp -dsimp [k0,k1,k2,k3,k4]
  simp [anyM,k0,k1,k2,k3,k4]
end Am
namespace Am
open Go Go.Proofs
open Cel (cells)
set_option maxRecDepth 100000
end Am
