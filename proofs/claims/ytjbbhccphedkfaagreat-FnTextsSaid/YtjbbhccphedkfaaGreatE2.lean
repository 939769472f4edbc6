/- Functions of the program keep their contracts. No condition. -/
import Derived.Test.YtjbbhccphedkfaaGreatT
import Derived.Test.YtjbbhccphedkfaaGreatAm23
import Derived.Test.YtjbbhccphedkfaaGreatAm26
import Derived.Test.YtjbbhccphedkfaaGreatD
import Derived.Test.YtjbbhccphedkfaaGreatAm32
import Derived.Test.YtjbbhccphedkfaaGreatAm29
import Derived.Test.YtjbbhccphedkfaaGreatAm31
set_option linter.unusedSimpArgs false
set_option linter.unusedVariables false
set_option linter.unnecessarySimpa false
set_option linter.unusedSectionVars false
namespace Am
open Go Go.Proofs
def spIn (x lo hi:Int):Bool:=decide (lo ≤ x) && decide (x ≤ hi)
def letters (s:ByteArray):Bool:=decide (∀ j:Nat,j < s.size → 97 ≤ bt s j ∧ bt s j ≤ 122)
def nameOk (s:ByteArray):Bool:=letters s && spIn s.size 1 8
theorem bt_range (s:ByteArray) (i:Int):0 ≤ bt s i ∧ bt s i < 256:=by
  unfold bt
  have:=(s.data.toList.getD i.toNat 0).toNat_lt
  omega
theorem letters_false {s:ByteArray} {i:Nat} (h1:i < s.size) (h:¬ (97 ≤ bt s i ∧ bt s i ≤ 122)):letters s = false:=by
  simp only [letters,decide_eq_false_iff_not]
  intro hh
  exact h (hh i h1)
@[simp] def h86:Hts:={  }
theorem f86_ok (x lo hi:Int):FnR Tryz.prog 86 [.v (.int .i64 x),.v (.int .i64 lo),.v (.int .i64 hi)] (.v (.bool (spIn x lo hi))):=by
  refine FnW.of_AW TryzT_ok 0 (fn:=Tryz.f86) (by kernel_rfl) rfl (by kernel_rfl) rfl rfl rfl ?_; refine AW_of h86 TryzT_ok (by kernel_rfl) ?_
  simp -dsimp
  rfl
@[simp] def h137:Hts:={  }
theorem f137_ok (x lo hi:Int):FnR Tryz.prog 137 [.v (.int .i64 x),.v (.int .i64 lo),.v (.int .i64 hi)] (.v (.bool (spIn x lo hi))):=by
  refine FnW.of_AW TryzT_ok 0 (fn:=Tryz.f137) (by kernel_rfl) rfl (by kernel_rfl) rfl rfl rfl ?_; refine AW_of h137 TryzT_ok (by kernel_rfl) ?_
  simp -dsimp
  rfl
@[simp] def h128:Hts:={ mergeF:=fun f => f == 86 }
theorem f128_ok (s:ByteArray) (hs:s.size ≤ 9223372036854775807):FnR Tryz.prog 128 [.v (.str s)] (.v (.bool (nameOk s))):=by
  refine FnW.of_AW TryzT_ok 0 (fn:=Tryz.f128) (by kernel_rfl) rfl (by kernel_rfl) rfl rfl rfl ?_; refine AW_of h128 TryzT_ok (by kernel_rfl) ?_
  simp -dsimp
  refine AWh_loop (fun i:Nat => i ≤ s.size ∧ ∀ j:Nat,j < i → 97 ≤ bt s j ∧ bt s j ≤ 122) (fun i => mkE [(0,.c (.str s)),(3,.c (.int .i64 i))] []) (fun i => s.size - i) 0 (Wk_to [0,3] [] rfl rfl (by simp)) (by simp) ?_
  rintro i ⟨hi,hall⟩
  refine AW_of h128 TryzT_ok (by kernel_rfl) ?_
  rcases Nat.lt_or_ge i s.size with h1 | h1
  · simp -dsimp [h1]
    refine ⟨fun h2 => ?_,fun h2 h3 => ?_⟩
    · simp [nameOk,letters_false h1 (by omega)]
    · refine Back_of (i + 1) [0,3] [] rfl rfl (by simp; rw [wrap64 (by omega) (by omega)]) ⟨by omega,fun j hj => ?_⟩ (by omega)
      by_cases e:j = i
      · subst e; exact ⟨h2,h3⟩
      · exact hall j (by omega)
  · simp -dsimp [Nat.not_lt.2 h1]
    refine ACallK_of (f86_ok _ _ _) ?_
    simp -dsimp
    have:letters s = true:=by
      simp only [letters,decide_eq_true_eq]
      intro j hj
      exact hall j (by omega)
    simp [nameOk,this]
@[simp] def h157:Hts:={ mergeF:=fun f => f == 137 }
theorem f157_ok (s:ByteArray) (hs:s.size ≤ 9223372036854775807):FnR Tryz.prog 157 [.v (.str s)] (.v (.bool (nameOk s))):=by
  refine FnW.of_AW TryzT_ok 0 (fn:=Tryz.f157) (by kernel_rfl) rfl (by kernel_rfl) rfl rfl rfl ?_; refine AW_of h157 TryzT_ok (by kernel_rfl) ?_
  simp -dsimp
  refine AWh_loop (fun i:Nat => i ≤ s.size ∧ ∀ j:Nat,j < i → 97 ≤ bt s j ∧ bt s j ≤ 122) (fun i => mkE [(0,.c (.str s)),(3,.c (.int .i64 i))] []) (fun i => s.size - i) 0 (Wk_to [0,3] [] rfl rfl (by simp)) (by simp) ?_
  rintro i ⟨hi,hall⟩
  refine AW_of h157 TryzT_ok (by kernel_rfl) ?_
  rcases Nat.lt_or_ge i s.size with h1 | h1
  · simp -dsimp [h1]
    refine ACallK_of (f137_ok _ _ _) ?_
    have:=bt_range s i
    rw [wrap64 (by omega) (by omega)]
    simp -dsimp [spIn]
    refine ⟨fun h2 => ?_,fun h2 h3 => ?_⟩
    · simp [nameOk,letters_false h1 (by omega)]
    · refine Back_of (i + 1) [0,3] [] rfl rfl (by simp; rw [wrap64 (by omega) (by omega)]) ⟨by omega,fun j hj => ?_⟩ (by omega)
      by_cases e:j = i
      · subst e; exact ⟨h2,h3⟩
      · exact hall j (by omega)
  · simp -dsimp [Nat.not_lt.2 h1]
    refine ACallK_of (f137_ok _ _ _) ?_
    simp -dsimp
    have:letters s = true:=by
      simp only [letters,decide_eq_true_eq]
      intro j hj
      exact hall j (by omega)
    simp [nameOk,this]
def valued (x:Int):Bool:=x == 1 || x == 4 || x == 6
@[simp] def h204:Hts:={ mergeF:=fun f => f == 86 }
theorem f204_ok (x:Int):FnR Tryz.prog 204 [.v (.int .i64 x)] (.v (.bool (spIn x 2 5))):=by
  refine FnW.of_AW TryzT_ok 0 (fn:=Tryz.f204) (by kernel_rfl) rfl (by kernel_rfl) rfl rfl rfl ?_; refine AW_of h204 TryzT_ok (by kernel_rfl) ?_
  simp -dsimp
  refine ACallK_of (f86_ok _ _ _) ?_
  simp -dsimp
@[simp] def h206:Hts:={  }
theorem f206_ok (x:Int):FnR Tryz.prog 206 [.v (.int .i64 x)] (.v (.bool (valued x))):=by
  refine FnW.of_AW TryzT_ok 0 (fn:=Tryz.f206) (by kernel_rfl) rfl (by kernel_rfl) rfl rfl rfl ?_; refine AW_of h206 TryzT_ok (by kernel_rfl) ?_
  simp -dsimp
  rfl
def plain (k v:Int) (ob key:ByteArray):Bool:=spIn k 1 7 && nameOk ob && (if spIn k 2 5 then nameOk key else decide (key.toList = [])) && (v == 0 || valued k && spIn v 0 999999)
@[simp] def h223:Hts:={ mergeF:=fun f => f == 86 || f == 128 || f == 204 || f == 206 }
theorem f223_ok (k v:Int) (ob key:ByteArray) (h1:ob.size ≤ 9223372036854775807) (h2:key.size ≤ 9223372036854775807) :
    FnR Tryz.prog 223 [.v (.int .i64 k),.v (.str ob),.v (.str key),.v (.int .i64 v)] (.v (.bool (plain k v ob key))):=by
  refine FnW.of_AW TryzT_ok 0 (fn:=Tryz.f223) (by kernel_rfl) rfl (by kernel_rfl) rfl rfl rfl ?_; refine AW_of h223 TryzT_ok (by kernel_rfl) ?_
  simp -dsimp
  repeat' (first
    | (refine ACallK_of (f86_ok _ _ _) ?_; simp -dsimp)
    | (refine ACallK_of (f128_ok _ (by assumption)) ?_; simp -dsimp)
    | (refine ACallK_of (f204_ok _) ?_; simp -dsimp)
    | (refine ACallK_of (f206_ok _) ?_; simp -dsimp)
    | refine And.intro ?_ ?_
    | intro _)
  all_goals first | assumption | grind [plain] | trace_state
end Am
namespace Am
open Go Go.Proofs
open Cel (cells)
set_option maxRecDepth 100000
structure GCur where
  b:List UInt8
  i:Int
  h:Int
def GCur.Ok (c:GCur):Prop:=0 ≤ c.i ∧ c.i ≤ c.b.length ∧ c.b.length ≤ 1048576
def band (a b:Int):Int:=IntKind.i64.wrap ((BitVec.ofInt IntKind.i64.bits a &&& BitVec.ofInt IntKind.i64.bits b).toNat:Int)
def bxor (a b:Int):Int:=IntKind.i64.wrap ((BitVec.ofInt IntKind.i64.bits a ^^^ BitVec.ofInt IntKind.i64.bits b).toNat:Int)
@[simp ↓] theorem abits_and (a b:Int):abits .i64 (BitVec.ofInt IntKind.i64.bits a &&& BitVec.ofInt IntKind.i64.bits b) = .int .i64 (band a b):=rfl
@[simp ↓] theorem abits_xor (a b:Int):abits .i64 (BitVec.ofInt IntKind.i64.bits a ^^^ BitVec.ofInt IntKind.i64.bits b) = .int .i64 (bxor a b):=rfl
theorem band_bd (a:Int) (n:Nat) (hn:n < 4611686018427387904):0 ≤ band a n ∧ band a n ≤ n:=by
  have h1:(BitVec.ofInt IntKind.i64.bits a &&& BitVec.ofInt IntKind.i64.bits (n:Int)).toNat ≤ n:=by
    rw [BitVec.toNat_and]
    refine Nat.le_trans Nat.and_le_right ?_
    rw [BitVec.toNat_ofInt]
    have:((n:Int) % ((2 ^ IntKind.i64.bits:Nat):Int)) = n:=Int.emod_eq_of_lt (by omega) (by show (n:Int) < 18446744073709551616; omega)
    rw [this]; simp
  unfold band
  rw [wrap64 (by omega) (by omega)]
  omega
def curH (c:GCur):Int:=IntKind.i64.wrap (IntKind.i64.wrap (c.h * 6364136223846793005) + 1442695040888963407)
def curX (c:GCur):Int:=band (bxor ((curH c).fdiv (2 ^ min 33 IntKind.i64.bits)) ((curH c).fdiv (2 ^ min 45 IntKind.i64.bits))) 255
def curB (c:GCur):Int × GCur :=
  if c.i < c.b.length then (band (IntKind.i64.wrap (curX c + (nth c.b c.i.toNat).toNat)) 255,⟨c.b,c.i + 1,curH c⟩) else (curX c,⟨c.b,c.i,curH c⟩)
theorem curX_bd (c:GCur):0 ≤ curX c ∧ curX c ≤ 255:=band_bd _ 255 (by decide)
theorem curB_bd (c:GCur):0 ≤ (curB c).1 ∧ (curB c).1 ≤ 255:=by
  unfold curB
  split
  · exact band_bd _ 255 (by decide)
  · exact curX_bd c
theorem curB_ok {c:GCur} (h:c.Ok):(curB c).2.Ok:=by
  unfold curB
  simp only [GCur.Ok] at h
  split
  · simp only [GCur.Ok]; omega
  · simp only [GCur.Ok]; omega
@[simp] def h62:Hts:={ merge:=fun _ => false,dr:=fun id => if id = 2 then [{},{},{},{},{},{},{},{},{},{},{},{},{}] else if id = 3 then [{},{},{},{},{},{},{},{},{},{}] else if id = 4 then [{},{},{},{},{},{},{},{},{},{},{},{},{},{},{}] else [] }
set_option maxHeartbeats 1000000 in
theorem f62_ok (c:GCur) (hc:c.Ok):FnW Tryz.prog 62 [.ptr [.im c.b.length (flat c.b),.int .i64 c.i,.int .i64 c.h]] (.v (.int .i64 ((curB c).1))) [.ptr [.im ((curB c).2).b.length (flat ((curB c).2).b),.int .i64 ((curB c).2).i,.int .i64 ((curB c).2).h]]:=by
  obtain ⟨b,i,h⟩:=c
  simp only [GCur.Ok] at hc
  obtain ⟨h1,h2,h3⟩:=hc
  obtain ⟨k,rfl⟩:=Int.eq_ofNat_of_zero_le h1
  refine FnW.of_AW TryzT_ok 1 (fn:=Tryz.f62) (by kernel_rfl) rfl (by kernel_rfl) rfl rfl rfl ?_; refine AW_of h62 TryzT_ok (by kernel_rfl) ?_
  rcases Nat.lt_or_ge k b.length with q1 | q1
  · have q2:(k:Int) < b.length:=by omega
    have q3:¬ b = []:=by rintro rfl; simp at q1
    have wi:IntKind.i64.wrap ((k:Int) + 1) = k + 1:=wrap64 (by omega) (by omega)
    have w8:IntKind.i64.wrap ((nth b k).toNat:Int) = (nth b k).toNat:=by have:=(nth b k).toNat_lt; exact wrap64 (by omega) (by omega)
    simp -dsimp [q1,ne_of_lt q1,q3,wi,w8]
    simp [curB,curX,curH,q1]
  · have q2:¬ (k:Int) < b.length:=by omega
    simp -dsimp [Nat.not_lt.2 q1,q1]
    simp [curB,curX,curH,Nat.not_lt.2 q1]
def newK (b:List UInt8):Nat → Int
  | 0 => 93901 + b.length
  | i + 1 => band (IntKind.i64.wrap (IntKind.i64.wrap (IntKind.i64.wrap (newK b i * 131) + (nth b i).toNat) + 7)) 1073741823
def curNew (b:List UInt8):GCur:=⟨b,0,newK b (min b.length 4000)⟩
theorem curNew_ok {b:List UInt8} (h:b.length ≤ 1048576):(curNew b).Ok:=by simp [curNew,GCur.Ok]; omega
@[simp] def h33:Hts:={ merge:=fun _ => false }
set_option maxHeartbeats 1000000 in
theorem f33_ok (b:List UInt8) (hb:b.length ≤ 1048576):FnR Tryz.prog 33 [.v (.im b.length (flat b))] (.ptr [.im ((curNew b)).b.length (flat ((curNew b)).b),.int .i64 ((curNew b)).i,.int .i64 ((curNew b)).h]):=by
  refine FnW.of_AW TryzT_ok 0 (fn:=Tryz.f33) (by kernel_rfl) rfl (by kernel_rfl) rfl rfl rfl ?_; refine AW_of h33 TryzT_ok (by kernel_rfl) ?_
  have w0:IntKind.i64.wrap (93901 + (b.length:Int)) = 93901 + b.length:=wrap64 (by omega) (by omega)
  simp -dsimp [w0]
  refine AWh_loop (fun i:Nat => i ≤ b.length ∧ i ≤ 4000) (fun i => mkE [(0,.c (.im b.length (flat b))),(3,.c (.int .i64 (newK b i))),(4,.c (.int .i64 i))] []) (fun i => b.length - i) 0 (Wk_to [0,3,4] [] rfl rfl (by simp [newK])) (by simp) ?_
  rintro i ⟨hi,h4⟩
  refine AW_of h33 TryzT_ok (by kernel_rfl) ?_
  have wi:IntKind.i64.wrap ((i:Int) + 1) = i + 1:=wrap64 (by omega) (by omega)
  rcases Nat.lt_or_ge i b.length with q1 | q1
  · rcases Nat.lt_or_ge i 4000 with q2 | q2
    · have q2':(i:Int) < 4000:=by omega
      have w8:IntKind.i64.wrap ((nth b i).toNat:Int) = (nth b i).toNat:=by have:=(nth b i).toNat_lt; exact wrap64 (by omega) (by omega)
      simp -dsimp [q1,ne_of_lt q1,q2,q2',w8,wi]
      exact Back_of (i + 1) [0,3,4] [] rfl rfl (by simp [newK]) (by omega) (by omega)
    · have e:i = 4000:=by omega
      have q2':¬ (i:Int) < 4000:=by omega
      simp -dsimp [q1,ne_of_lt q1,q2']
      simp [curNew,e,Nat.min_eq_right (by omega:4000 ≤ b.length)]
  · have e:i = b.length:=by omega
    simp -dsimp [Nat.not_lt.2 q1,q1]
    simp [curNew,e,Nat.min_eq_left (by omega:b.length ≤ 4000)]
def curN (c:GCur) (n:Int):Int × GCur :=
  if n ≤ 0 then (0,c) else if n ≤ 256 then ((curB c).1.tmod n,(curB c).2) else
  ((((curB c).1 * 16777216 + (curB (curB c).2).1 * 65536 + (curB (curB (curB c).2).2).1 * 256 + (curB (curB (curB (curB c).2).2).2).1)).tmod n,(curB (curB (curB (curB c).2).2).2).2)
theorem curN_ok {c:GCur} (h:c.Ok) (n:Int):(curN c n).2.Ok:=by
  unfold curN
  split
  · exact h
  split
  · exact curB_ok h
  · exact curB_ok (curB_ok (curB_ok (curB_ok h)))
theorem tmod_bd {a n:Int} (ha:0 ≤ a) (hn:0 < n):0 ≤ a.tmod n ∧ a.tmod n < n:=by
  rw [Int.tmod_eq_emod_of_nonneg ha]
  exact ⟨Int.emod_nonneg _ (by omega),Int.emod_lt_of_pos _ hn⟩
theorem curN_bd (c:GCur) {n:Int} (hn:0 < n):0 ≤ (curN c n).1 ∧ (curN c n).1 < n:=by
  have h1:=curB_bd c
  have h2:=curB_bd (curB c).2
  have h3:=curB_bd (curB (curB c).2).2
  have h4:=curB_bd (curB (curB (curB c).2).2).2
  unfold curN
  rw [if_neg (by omega)]
  split
  · exact tmod_bd h1.1 hn
  · exact tmod_bd (by omega) hn
@[simp] def h50:Hts:={ merge:=fun _ => false,lend:=fun f => if f = 62 then [.box []] else [] }
set_option maxHeartbeats 1000000 in
theorem f50_ok (c:GCur) (hc:c.Ok) (n:Int):FnW Tryz.prog 50 [.ptr [.im c.b.length (flat c.b),.int .i64 c.i,.int .i64 c.h],.v (.int .i64 n)] (.v (.int .i64 ((curN c n).1))) [.ptr [.im ((curN c n).2).b.length (flat ((curN c n).2).b),.int .i64 ((curN c n).2).i,.int .i64 ((curN c n).2).h],.any]:=by
  have h1:=curB_bd c
  have h2:=curB_bd (curB c).2
  have h3:=curB_bd (curB (curB c).2).2
  have h4:=curB_bd (curB (curB (curB c).2).2).2
  refine FnW.of_AW TryzT_ok 1 (fn:=Tryz.f50) (by kernel_rfl) rfl (by kernel_rfl) rfl rfl rfl ?_; refine AW_of h50 TryzT_ok (by kernel_rfl) ?_
  rcases Int.lt_or_le 0 n with q1 | q1
  rotate_left
  · have q1':¬ 0 < n:=by omega
    simp -dsimp [q1,q1']
    simp [curN,q1]
  have q1':¬ n ≤ 0:=by omega
  have q0:¬ n = 0:=by omega
  rcases Int.lt_or_le 256 n with q2 | q2
  rotate_left
  · simp -dsimp [q1,q1',q2]
    refine ACallW_go ?_
    refine ACallC_go (fun us => f62_ok c hc) ?_
    simp -dsimp [q0]
    simp [curN,q1',q2]
  have q2':¬ n ≤ 256:=by omega
  simp -dsimp [q1,q1',q2,q2']
  refine ACallW_go ?_
  refine ACallC_go (fun us => f62_ok c hc) ?_
  simp -dsimp
  refine ACallW_go ?_
  refine ACallC_go (fun us => f62_ok (curB c).2 (curB_ok hc)) ?_
  simp -dsimp
  refine ACallW_go ?_
  refine ACallC_go (fun us => f62_ok (curB (curB c).2).2 (curB_ok (curB_ok hc))) ?_
  simp -dsimp
  refine ACallW_go ?_
  refine ACallC_go (fun us => f62_ok (curB (curB (curB c).2).2).2 (curB_ok (curB_ok (curB_ok hc)))) ?_
  have w1:IntKind.i64.wrap ((curB c).1 * 16777216) = (curB c).1 * 16777216:=wrap64 (by omega) (by omega)
  have w2:IntKind.i64.wrap ((curB (curB c).2).1 * 65536) = (curB (curB c).2).1 * 65536:=wrap64 (by omega) (by omega)
  have w3:IntKind.i64.wrap ((curB (curB (curB c).2).2).1 * 256) = (curB (curB (curB c).2).2).1 * 256:=wrap64 (by omega) (by omega)
  have w4:IntKind.i64.wrap ((curB c).1 * 16777216 + (curB (curB c).2).1 * 65536) = (curB c).1 * 16777216 + (curB (curB c).2).1 * 65536:=wrap64 (by omega) (by omega)
  have w5:IntKind.i64.wrap ((curB c).1 * 16777216 + (curB (curB c).2).1 * 65536 + (curB (curB (curB c).2).2).1 * 256) = (curB c).1 * 16777216 + (curB (curB c).2).1 * 65536 + (curB (curB (curB c).2).2).1 * 256:=wrap64 (by omega) (by omega)
  have w6:IntKind.i64.wrap ((curB c).1 * 16777216 + (curB (curB c).2).1 * 65536 + (curB (curB (curB c).2).2).1 * 256 + (curB (curB (curB (curB c).2).2).2).1) = (curB c).1 * 16777216 + (curB (curB c).2).1 * 65536 + (curB (curB (curB c).2).2).1 * 256 + (curB (curB (curB (curB c).2).2).2).1:=wrap64 (by omega) (by omega)
  simp -dsimp [q0,w1,w2,w3,w4,w5,w6]
  simp [curN,q1',q2']
def curPick {α:Type} [Cel α] (c:GCur) (l:List α):α × GCur:=(nth l (curN c l.length).1.toNat,(curN c l.length).2)
theorem curPick_ok {α:Type} [Cel α] {c:GCur} (h:c.Ok) (l:List α):(curPick c l).2.Ok:=curN_ok h _
theorem curPick_mem {α:Type} [Cel α] (c:GCur) {l:List α} (h:l ≠ []):(curPick c l).1 ∈ l:=by
  have:0 < l.length:=List.length_pos_iff.2 h
  have:=curN_bd c (n:=l.length) (by omega)
  exact nth_mem (by omega)
@[simp] def h202:Hts:={ merge:=fun _ => false,lend:=fun f => if f = 50 then [.box []] else [] }
theorem f202_ok (c:GCur) (hc:c.Ok) (l:List Int) (hl:l ≠ []):FnW Tryz.prog 202 [.ptr [.im c.b.length (flat c.b),.int .i64 c.i,.int .i64 c.h],.v (.ow 3 1 l.length (flat l))] (.v (.int .i64 ((curPick c l).1))) [.ptr [.im ((curPick c l).2).b.length (flat ((curPick c l).2).b),.int .i64 ((curPick c l).2).i,.int .i64 ((curPick c l).2).h],.any]:=by
  have h0:0 < l.length:=List.length_pos_iff.2 hl
  have hb:=curN_bd c (n:=l.length) (by omega)
  refine FnW.of_AW TryzT_ok 1 (fn:=Tryz.f202) (by kernel_rfl) rfl (by kernel_rfl) rfl rfl rfl ?_; refine AW_of h202 TryzT_ok (by kernel_rfl) ?_
  simp -dsimp
  refine ACallW_go ?_
  refine ACallC_go (fun us => f50_ok c hc l.length) ?_
  obtain ⟨m,hm⟩:=Int.eq_ofNat_of_zero_le hb.1
  rw [hm] at hb
  have q1:m < l.length:=by omega
  simp -dsimp [hm,q1,ne_of_lt q1,hl]
  simp [curPick,hm]
@[simp] def h225:Hts:={ merge:=fun _ => false,lend:=fun f => if f = 50 then [.box []] else [] }
theorem f225_ok (c:GCur) (hc:c.Ok) (l:List ByteArray) (hl:l ≠ []):FnW Tryz.prog 225 [.ptr [.im c.b.length (flat c.b),.int .i64 c.i,.int .i64 c.h],.v (.ow 9 1 l.length (flat l))] (.v (.str ((curPick c l).1))) [.ptr [.im ((curPick c l).2).b.length (flat ((curPick c l).2).b),.int .i64 ((curPick c l).2).i,.int .i64 ((curPick c l).2).h],.any]:=by
  have h0:0 < l.length:=List.length_pos_iff.2 hl
  have hb:=curN_bd c (n:=l.length) (by omega)
  refine FnW.of_AW TryzT_ok 1 (fn:=Tryz.f225) (by kernel_rfl) rfl (by kernel_rfl) rfl rfl rfl ?_; refine AW_of h225 TryzT_ok (by kernel_rfl) ?_
  simp -dsimp
  refine ACallW_go ?_
  refine ACallC_go (fun us => f50_ok c hc l.length) ?_
  obtain ⟨m,hm⟩:=Int.eq_ofNat_of_zero_le hb.1
  rw [hm] at hb
  have q1:m < l.length:=by omega
  simp -dsimp [hm,q1,ne_of_lt q1,hl]
  simp [curPick,hm]
end Am
namespace Am
open Go Go.Proofs
open Cel (cells)
set_option maxRecDepth 100000
def knowOk (k:List Int):Bool:=decide (k.length = 3) && decide (∀ j:Nat,j < k.length → 0 ≤ nth k j ∧ nth k j ≤ 1000)
def dotOk (d:GDot):Bool:=spIn d.rep 0 2 && spIn d.seq 1 1000
def knows (k:List Int) (d:GDot):Bool:=knowOk k && dotOk d && decide (d.seq ≤ nth k d.rep.toNat)
@[simp] def h63:Hts:={ mergeF:=fun f => f == 86 }
theorem f63_ok (k:List Int) (ha:k.length ≤ 1073741824):FnR Tryz.prog 63 [.v (.im k.length (flat k))] (.v (.bool (knowOk k))):=by
  refine FnW.of_AW TryzT_ok 0 (fn:=Tryz.f63) (by kernel_rfl) rfl (by kernel_rfl) rfl rfl rfl ?_; refine AW_of h63 TryzT_ok (by kernel_rfl) ?_
  simp -dsimp
  refine AWh_loop (fun i:Nat => i ≤ k.length ∧ ∀ j:Nat,j < i → 0 ≤ nth k j ∧ nth k j ≤ 1000) (fun i => mkE [(0,.c (.im k.length (flat k))),(3,.c (.int .i64 i))] []) (fun i => k.length - i) 0 (Wk_to [0,3] [] rfl rfl (by simp)) (by simp) ?_
  rintro i ⟨hi,hall⟩
  refine AW_of h63 TryzT_ok (by kernel_rfl) ?_
  rcases Nat.lt_or_ge i k.length with h1 | h1
  · simp -dsimp [h1,ne_of_lt h1]
    refine ACallK_of (f86_ok _ _ _) ?_
    simp -dsimp
    refine ⟨fun h => ?_,fun h => ?_⟩
    · simp only [knowOk,Bool.and_eq_false_iff,decide_eq_false_iff_not]
      refine .inr fun hh => ?_
      have:=hh i h1
      simp [spIn] at h
      omega
    · simp [spIn] at h
      refine Back_of (i + 1) [0,3] [] rfl rfl (by simp; rw [wrap64 (by omega) (by omega)]) ⟨by omega,fun j hj => ?_⟩ (by omega)
      by_cases e:j = i
      · subst e; exact h
      · exact hall j (by omega)
  · simp -dsimp [Nat.not_lt.2 h1]
    have:∀ j:Nat,j < k.length → 0 ≤ nth k j ∧ nth k j ≤ 1000:=fun j hj => hall j (by omega)
    rw [Bool.eq_iff_iff]
    simp [knowOk]
    constructor
    · intro h; exact ⟨by omega,this⟩
    · intro h; omega
@[simp] def h129:Hts:={ mergeF:=fun f => f == 86 }
theorem f129_ok (d:GDot):FnR Tryz.prog 129 [.agg [.int .i64 d.rep,.int .i64 d.seq]] (.v (.bool (dotOk d))):=by
  refine FnW.of_AW TryzT_ok 0 (fn:=Tryz.f129) (by kernel_rfl) rfl (by kernel_rfl) rfl rfl rfl ?_; refine AW_of h129 TryzT_ok (by kernel_rfl) ?_
  simp -dsimp
  repeat' (first
    | (refine ACallK_of (f86_ok _ _ _) ?_; simp -dsimp)
    | refine And.intro ?_ ?_
    | intro _)
  all_goals first | assumption | rfl | trace_state
theorem dot_range {k:List Int} {d:GDot} (h1:knowOk k = true) (h2:dotOk d = true):d.rep.toNat < k.length ∧ 0 ≤ d.rep ∧ d.rep < k.length:=by
  simp [knowOk] at h1
  simp [dotOk,spIn] at h2
  omega
@[simp] def h67:Hts:={ mergeF:=fun f => f == 63 || f == 129,dr:=fun id => if id = 1 then [{},{ cr:=true },{},{},{ cr:=true },{},{},{},{},{},{},{},{},{},{},{},{}] else [] }
theorem f67_ok (k:List Int) (d:GDot) (ha:k.length ≤ 1073741824):FnR Tryz.prog 67 [.v (.im k.length (flat k)),.agg [.int .i64 d.rep,.int .i64 d.seq]] (.v (.bool (knows k d))):=by
  refine FnW.of_AW TryzT_ok 0 (fn:=Tryz.f67) (by kernel_rfl) rfl (by kernel_rfl) rfl rfl rfl ?_; refine AW_of h67 TryzT_ok (by kernel_rfl) ?_
  by_cases hb:knowOk k = true ∧ dotOk d = true
  · obtain ⟨r1,r2,r3⟩:=dot_range hb.1 hb.2
    simp -dsimp
    refine ACallK_of (f63_ok _ ha) ?_
    simp -dsimp [hb.1]
    refine ACallK_of (f129_ok _) ?_
    simp -dsimp [hb.2,r1,ne_of_lt r1]
    exact ⟨⟨r2,by omega⟩,by simp [knows,hb.1,hb.2]⟩
  · have hf:(knowOk k && dotOk d) = false:=by
      cases h1:knowOk k <;> cases h2:dotOk d <;> simp_all
    simp -dsimp
    refine ACallK_of (f63_ok _ ha) ?_
    simp -dsimp
    refine ACallK_of (f129_ok _) ?_
    simp -dsimp [hf]
    simp [knows,hf]
@[simp] def h97:Hts:={ mergeF:=fun f => f == 137 }
theorem f97_ok (k:List Int) (ha:k.length ≤ 1073741824):FnR Tryz.prog 97 [.v (.im k.length (flat k))] (.v (.bool (knowOk k))):=by
  refine FnW.of_AW TryzT_ok 0 (fn:=Tryz.f97) (by kernel_rfl) rfl (by kernel_rfl) rfl rfl rfl ?_; refine AW_of h97 TryzT_ok (by kernel_rfl) ?_
  simp -dsimp
  refine AWh_loop (fun i:Nat => i ≤ k.length ∧ ∀ j:Nat,j < i → 0 ≤ nth k j ∧ nth k j ≤ 1000) (fun i => mkE [(0,.c (.im k.length (flat k))),(5,.c (.im k.length (flat k))),(6,.c (.int .i64 k.length)),(7,.c (.int .i64 i))] []) (fun i => k.length - i) 0 (Wk_to [0,5,6,7] [] rfl rfl (by simp)) (by simp) ?_
  rintro i ⟨hi,hall⟩
  refine AW_of h97 TryzT_ok (by kernel_rfl) ?_
  rcases Nat.lt_or_ge i k.length with h1 | h1
  · simp -dsimp [h1,ne_of_lt h1]
    refine ACallK_of (f137_ok _ _ _) ?_
    simp -dsimp
    refine ⟨fun h => ?_,fun h => ?_⟩
    · simp only [knowOk,Bool.and_eq_false_iff,decide_eq_false_iff_not]
      refine .inr fun hh => ?_
      have:=hh i h1
      simp [spIn] at h
      omega
    · simp [spIn] at h
      refine Back_of (i + 1) [0,5,6,7] [] rfl rfl (by simp; rw [wrap64 (by omega) (by omega)]) ⟨by omega,fun j hj => ?_⟩ (by omega)
      by_cases e:j = i
      · subst e; exact h
      · exact hall j (by omega)
  · simp -dsimp [Nat.not_lt.2 h1]
    have:∀ j:Nat,j < k.length → 0 ≤ nth k j ∧ nth k j ≤ 1000:=fun j hj => hall j (by omega)
    rw [Bool.eq_iff_iff]
    simp [knowOk]
    constructor
    · intro h; exact ⟨by omega,this⟩
    · intro h; omega
@[simp] def h115:Hts:={ mergeF:=fun f => f == 137 }
theorem f115_ok (d:GDot):FnR Tryz.prog 115 [.agg [.int .i64 d.rep,.int .i64 d.seq]] (.v (.bool (dotOk d))):=by
  refine FnW.of_AW TryzT_ok 0 (fn:=Tryz.f115) (by kernel_rfl) rfl (by kernel_rfl) rfl rfl rfl ?_; refine AW_of h115 TryzT_ok (by kernel_rfl) ?_
  simp -dsimp
  repeat' (first
    | (refine ACallK_of (f137_ok _ _ _) ?_; simp -dsimp)
    | refine And.intro ?_ ?_
    | intro _)
  all_goals first | assumption | rfl | trace_state
@[simp] def h113:Hts:={ mergeF:=fun f => f == 97 || f == 115,dr:=fun id => if id = 1 then [{},{ cr:=true },{},{},{ cr:=true },{},{},{},{},{},{},{},{},{},{},{},{}] else [] }
theorem f113_ok (k:List Int) (d:GDot) (ha:k.length ≤ 1073741824):FnR Tryz.prog 113 [.v (.im k.length (flat k)),.agg [.int .i64 d.rep,.int .i64 d.seq]] (.v (.bool (knows k d))):=by
  refine FnW.of_AW TryzT_ok 0 (fn:=Tryz.f113) (by kernel_rfl) rfl (by kernel_rfl) rfl rfl rfl ?_; refine AW_of h113 TryzT_ok (by kernel_rfl) ?_
  by_cases hb:knowOk k = true ∧ dotOk d = true
  · obtain ⟨r1,r2,r3⟩:=dot_range hb.1 hb.2
    simp -dsimp
    refine ACallK_of (f97_ok _ ha) ?_
    simp -dsimp [hb.1]
    refine ACallK_of (f115_ok _) ?_
    simp -dsimp [hb.2,r1,ne_of_lt r1]
    exact ⟨⟨r2,by omega⟩,by simp [knows,hb.1,hb.2]⟩
  · have hf:(knowOk k && dotOk d) = false:=by
      cases h1:knowOk k <;> cases h2:dotOk d <;> simp_all
    simp -dsimp
    refine ACallK_of (f97_ok _ ha) ?_
    simp -dsimp
    refine ACallK_of (f115_ok _) ?_
    simp -dsimp [hf]
    simp [knows,hf]
def knowIn (a b:List Int):Bool:=knowOk a && knowOk b && decide (∀ j:Nat,j < a.length → nth a j ≤ nth b j)
def before (a b:GDot):Bool:=decide (a.rep < b.rep) || decide (a.rep = b.rep) && decide (a.seq < b.seq)
@[simp] def h70:Hts:={ mergeF:=fun f => f == 63,dr:=fun id => if id = 6 then [{},{},{},{},{},{},{},{},{}] else [] }
theorem f70_ok (a b:List Int) (ha:a.length ≤ 1073741824) (hb:b.length ≤ 1073741824):FnR Tryz.prog 70 [.v (.im a.length (flat a)),.v (.im b.length (flat b))] (.v (.bool (knowIn a b))):=by
  refine FnW.of_AW TryzT_ok 0 (fn:=Tryz.f70) (by kernel_rfl) rfl (by kernel_rfl) rfl rfl rfl ?_; refine AW_of h70 TryzT_ok (by kernel_rfl) ?_
  simp -dsimp
  refine ACallK_of (f63_ok _ ha) ?_
  simp -dsimp
  refine ACallK_of (f63_ok _ hb) ?_
  simp -dsimp
  refine ⟨fun h => ?_,fun ka kb => ?_⟩
  · rcases h with h | h <;> simp [knowIn,h]
  have la:a.length = b.length:=by
    simp [knowOk] at ka kb
    omega
  refine AWh_loop (fun i:Nat => i ≤ a.length ∧ ∀ j:Nat,j < i → nth a j ≤ nth b j) (fun i => mkE [(0,.c (.im a.length (flat a))),(1,.c (.im b.length (flat b))),(5,.c (.int .i64 i))] []) (fun i => a.length - i) 0 (Wk_to [0,1,5] [] rfl rfl (by simp)) (by simp) ?_
  rintro i ⟨hi,hall⟩
  refine AW_of h70 TryzT_ok (by kernel_rfl) ?_
  rcases Nat.lt_or_ge i a.length with h1 | h1
  · have h2:i < b.length:=by omega
    simp -dsimp [h1,h2,ne_of_lt h1,ne_of_lt h2]
    refine ⟨fun h => ?_,fun h => ?_⟩
    · have:decide (∀ j:Nat,j < a.length → nth a j ≤ nth b j) = false:=by
        rw [decide_eq_false_iff_not]
        intro hh
        have:=hh i h1
        omega
      simp only [knowIn,this,Bool.and_false]
    · refine Back_of (i + 1) [0,1,5] [] rfl rfl (by simp; rw [wrap64 (by omega) (by omega)]) ⟨by omega,fun j hj => ?_⟩ (by omega)
      by_cases e:j = i
      · subst e; exact h
      · exact hall j (by omega)
  · simp -dsimp [Nat.not_lt.2 h1]
    have:decide (∀ j:Nat,j < a.length → nth a j ≤ nth b j) = true:=by
      rw [decide_eq_true_eq]
      exact fun j hj => hall j (by omega)
    simp only [knowIn,this,ka,kb,Bool.and_self]
@[simp] def h112:Hts:={ mergeF:=fun f => f == 97 }
theorem f112_ok (a b:List Int) (ha:a.length ≤ 1073741824) (hb:b.length ≤ 1073741824):FnR Tryz.prog 112 [.v (.im a.length (flat a)),.v (.im b.length (flat b))] (.v (.bool (knowIn a b))):=by
  refine FnW.of_AW TryzT_ok 0 (fn:=Tryz.f112) (by kernel_rfl) rfl (by kernel_rfl) rfl rfl rfl ?_; refine AW_of h112 TryzT_ok (by kernel_rfl) ?_
  simp -dsimp
  refine ACallK_of (f97_ok _ ha) ?_
  simp -dsimp
  refine ACallK_of (f97_ok _ hb) ?_
  simp -dsimp
  refine ⟨fun h => ?_,fun ka kb => ?_⟩
  · rcases h with h | h <;> simp [knowIn,h]
  have la:a.length = b.length:=by
    simp [knowOk] at ka kb
    omega
  refine AWh_loop (fun i:Nat => i ≤ a.length ∧ ∀ j:Nat,j < i → nth a j ≤ nth b j) (fun i => mkE [(0,.c (.im a.length (flat a))),(1,.c (.im b.length (flat b))),(15,.c (.im a.length (flat a))),(16,.c (.int .i64 a.length)),(17,.c (.int .i64 i))] []) (fun i => a.length - i) 0 (Wk_to [0,1,15,16,17] [] rfl rfl (by simp)) (by simp) ?_
  rintro i ⟨hi,hall⟩
  refine AW_of h112 TryzT_ok (by kernel_rfl) ?_
  rcases Nat.lt_or_ge i a.length with h1 | h1
  · have h2:i < b.length:=by omega
    simp -dsimp [h1,h2,ne_of_lt h1,ne_of_lt h2]
    refine ⟨fun h => ?_,fun h => ?_⟩
    · have:decide (∀ j:Nat,j < a.length → nth a j ≤ nth b j) = false:=by
        rw [decide_eq_false_iff_not]
        intro hh
        have:=hh i h1
        omega
      simp only [knowIn,this,Bool.and_false]
    · refine Back_of (i + 1) [0,1,15,16,17] [] rfl rfl (by simp; rw [wrap64 (by omega) (by omega)]) ⟨by omega,fun j hj => ?_⟩ (by omega)
      by_cases e:j = i
      · subst e; exact h
      · exact hall j (by omega)
  · simp -dsimp [Nat.not_lt.2 h1]
    have:decide (∀ j:Nat,j < a.length → nth a j ≤ nth b j) = true:=by
      rw [decide_eq_true_eq]
      exact fun j hj => hall j (by omega)
    simp only [knowIn,this,ka,kb,Bool.and_self]
@[simp] def h130:Hts:={  }
theorem f130_ok (a b:GDot):FnR Tryz.prog 130 [.agg [.int .i64 a.rep,.int .i64 a.seq],.agg [.int .i64 b.rep,.int .i64 b.seq]] (.v (.bool (before a b))):=by
  refine FnW.of_AW TryzT_ok 0 (fn:=Tryz.f130) (by kernel_rfl) rfl (by kernel_rfl) rfl rfl rfl ?_; refine AW_of h130 TryzT_ok (by kernel_rfl) ?_
  simp -dsimp
  all_goals (try (rw [Bool.eq_iff_iff]; simp [before]; done))
  all_goals (try grind [before])
def dotsOk (l:List GDot):Bool:=decide (l.length ≤ 120) && decide (∀ i:Nat,i < l.length → dotOk (nth l i) = true ∧ (0 < i → before (nth l (i - 1)) (nth l i) = true))
theorem dotsOk_false {l:List GDot} {i:Nat} (h1:i < l.length) (h:¬ (dotOk (nth l i) = true ∧ (0 < i → before (nth l (i - 1)) (nth l i) = true))):dotsOk l = false:=by
  simp only [dotsOk,Bool.and_eq_false_iff,decide_eq_false_iff_not]
  exact .inr fun hh => h (hh i h1)
@[simp] def h71:Hts:={ merge:=fun t => !(t == 24 || t == 28 || t == 29 || t == 30 || t == 31),mergeF:=fun f => f == 129 || f == 130,dr:=fun id => if id = 4 then [{},{},{},{},{ cr:=true },{},{},{},{},{},{},{},{},{},{},{},{},{},{},{ cr:=true },{},{},{}] else [] }
theorem f71_ok (l:List GDot) (ha:l.length ≤ 1073741824):FnR Tryz.prog 71 [.v (.im l.length (flat l))] (.v (.bool (dotsOk l))):=by
  refine FnW.of_AW TryzT_ok 0 (fn:=Tryz.f71) (by kernel_rfl) rfl (by kernel_rfl) rfl rfl rfl ?_; refine AW_of h71 TryzT_ok (by kernel_rfl) ?_
  simp -dsimp
  refine AWh_loop (fun i:Nat => i ≤ l.length ∧ ∀ j:Nat,j < i → dotOk (nth l j) = true ∧ (0 < j → before (nth l (j - 1)) (nth l j) = true)) (fun i => mkE [(0,.c (.im l.length (flat l))),(3,.c (.int .i64 i))] []) (fun i => l.length - i) 0 (Wk_to [0,3] [] rfl rfl (by simp)) (by simp) ?_
  rintro i ⟨hi,hall⟩
  refine AW_of h71 TryzT_ok (by kernel_rfl) ?_
  rcases Nat.lt_or_ge i l.length with h1 | h1
  · simp -dsimp [h1,ne_of_lt h1]
    refine ⟨by omega,?_⟩
    refine ACallK_of (f129_ok _) ?_
    cases hd:dotOk (nth l i) with
    | false =>
      simp -dsimp
      exact dotsOk_false h1 (by rw [hd]; simp)
    | true =>
      rcases Nat.eq_zero_or_pos i with h0 | h0
      · have hz:¬ 0 < i:=by omega
        simp -dsimp [hz]
        refine Back_of (i + 1) [0,3] [] rfl rfl (by simp; rw [wrap64 (by omega) (by omega)]) ⟨by omega,fun j hj => ?_⟩ (by omega)
        obtain rfl:j = i:=by omega
        exact ⟨hd,fun h => by omega⟩
      · have w:IntKind.i64.wrap ((i:Int) - 1) = i - 1:=wrap64 (by omega) (by omega)
        have t1:((i:Int) - 1).toNat = i - 1:=by omega
        have h3:i - 1 < l.length:=by omega
        simp -dsimp [h0,h1,h3,w,t1,ne_of_lt h1]
        refine ⟨⟨by omega,by omega⟩,by omega,by omega,?_⟩
        refine ACallK_of (f130_ok _ _) ?_
        simp -dsimp
        refine ⟨fun h => ?_,fun h => ?_⟩
        · exact dotsOk_false h1 (by rw [h]; simp; intro _; omega)
        · refine Back_of (i + 1) [0,3] [] rfl rfl (by simp; rw [wrap64 (by omega) (by omega)]) ⟨by omega,fun k hk => ?_⟩ (by omega)
          by_cases e:k = i
          · subst e
            exact ⟨hd,fun _ => h⟩
          · exact hall k (by omega)
  · simp -dsimp [Nat.not_lt.2 h1]
    have e:i = l.length:=by omega
    subst e
    have:decide (∀ i:Nat,i < l.length → dotOk (nth l i) = true ∧ (0 < i → before (nth l (i - 1)) (nth l i) = true)) = true:=by
      rw [decide_eq_true_eq]; exact hall
    simp only [dotsOk,this,Bool.and_true]
    rw [Bool.eq_iff_iff]
    simp
    omega
end Am
namespace Am
open Go Go.Proofs
open Cel (cells)
set_option maxRecDepth 100000
def cmpInt (a b:Int):Int:=if a < b then -1 else if b < a then 1 else 0
def orInt:List Int → Int
  | [] => 0
  | x :: xs => if x = 0 then orInt xs else x
@[simp] def h198:Hts:={  }
theorem f198_ok (x:Int):FnR Tryz.prog 198 [.v (.int .i64 x)] (.v (.bool false)):=by
  refine FnW.of_AW TryzT_ok 0 (fn:=Tryz.f198) (by kernel_rfl) rfl (by kernel_rfl) rfl rfl rfl ?_; refine AW_of h198 TryzT_ok (by kernel_rfl) ?_
  simp -dsimp
@[simp] def h166:Hts:={  }
theorem f166_ok (a b:Int):FnR Tryz.prog 166 [.v (.int .i64 a),.v (.int .i64 b)] (.v (.int .i64 (cmpInt a b))):=by
  refine FnW.of_AW TryzT_ok 0 (fn:=Tryz.f166) (by kernel_rfl) rfl (by kernel_rfl) rfl rfl rfl ?_; refine AW_of h166 TryzT_ok (by kernel_rfl) ?_
  simp -dsimp
  refine ACallK_of (f198_ok _) ?_
  simp -dsimp
  refine ACallK_of (f198_ok _) ?_
  simp -dsimp
  unfold cmpInt
  refine ⟨fun h => by rw [if_pos h],fun h => ⟨fun h' => ?_,fun h' => ?_⟩⟩
  · rw [if_neg (by omega),if_pos h']
  · rw [if_neg (by omega),if_neg (by omega)]
@[simp] def h165:Hts:={  }
theorem f165_ok (xs:List Int) (ha:xs.length ≤ 1073741824):FnR Tryz.prog 165 [.v (.im xs.length (flat xs))] (.v (.int .i64 (orInt xs))):=by
  refine FnW.of_AW TryzT_ok 0 (fn:=Tryz.f165) (by kernel_rfl) rfl (by kernel_rfl) rfl rfl rfl ?_; refine AW_of h165 TryzT_ok (by kernel_rfl) ?_
  simp -dsimp
  refine AWh_loop (fun i:Nat => i ≤ xs.length ∧ orInt (xs.drop i) = orInt xs) (fun i => mkE [(3,.c (.int .i64 0)),(6,.c (.im xs.length (flat xs))),(7,.c (.int .i64 xs.length)),(8,.c (.int .i64 i))] []) (fun i => xs.length - i) 0 (Wk_to [3,6,7,8] [] rfl rfl (by simp)) (by simp) ?_
  rintro i ⟨hi,hinv⟩
  refine AW_of h165 TryzT_ok (by kernel_rfl) ?_
  rcases Nat.lt_or_ge i xs.length with h1 | h1
  · simp -dsimp [h1,ne_of_lt h1]
    rw [List.drop_eq_getElem_cons h1,← nth_eq h1,orInt] at hinv
    refine ⟨fun h => by rw [← hinv,if_neg h],fun h => ?_⟩
    rw [if_pos h] at hinv
    exact Back_of (i + 1) [3,6,7,8] [] rfl rfl (by simp; rw [wrap64 (by omega) (by omega)]) ⟨by omega,hinv⟩ (by omega)
  · simp -dsimp [Nat.not_lt.2 h1]
    rw [← hinv,List.drop_of_length_le h1]
    rfl
def cmpDot (a b:GDot):Int:=orInt [cmpInt a.rep b.rep,cmpInt a.seq b.seq]
@[simp] def h114:Hts:={ dr:=fun id => if id = 1 then [{},{},{},{},{ cr:=true },{ mb:=[9] },{ mb:=[9] },{ mb:=[9] },{ mb:=[9] },{ cr:=true },{ cr:=true },{ cr:=true },{}] else [] }
theorem f114_ok (a b:GDot):FnR Tryz.prog 114 [.agg [.int .i64 a.rep,.int .i64 a.seq],.agg [.int .i64 b.rep,.int .i64 b.seq]] (.v (.int .i64 (cmpDot a b))):=by
  refine FnW.of_AW TryzT_ok 0 (fn:=Tryz.f114) (by kernel_rfl) rfl (by kernel_rfl) rfl rfl rfl ?_; refine AW_of h114 TryzT_ok (by kernel_rfl) ?_
  simp -dsimp
  refine ACallK_of (f166_ok _ _) ?_
  simp -dsimp
  refine ACallK_of (f166_ok _ _) ?_
  simp -dsimp
  refine ACallK_of (f165_ok [cmpInt a.rep b.rep,cmpInt a.seq b.seq] (by simp)) ?_
  simp -dsimp
  rfl
theorem cmpDot_before (a b:GDot):(0 ≤ cmpDot a b) ↔ before a b = false:=by
  unfold cmpDot orInt orInt orInt cmpInt before
  simp
  split <;> split <;> (try split) <;> omega
end Am
namespace Am
open Go Go.Proofs
open Cel (cells)
set_option maxRecDepth 100000
def allB (p:Nat → Bool):Nat → Bool
  | 0 => true
  | n + 1 => allB p n && p n
theorem allB_iff {p:Nat → Bool} {n:Nat}:allB p n = true ↔ ∀ i:Nat,i < n → p i = true:=by
  induction n with
  | zero => simp [allB]
  | succ n ih =>
    simp only [allB,Bool.and_eq_true,ih]
    constructor
    · rintro ⟨h,h'⟩ i hi
      by_cases e:i = n
      · subst e; exact h'
      · exact h i (by omega)
    · intro h; exact ⟨fun i hi => h i (by omega),h n (by omega)⟩
theorem allB_false {p:Nat → Bool} {n i:Nat} (h:i < n) (hp:p i = false):allB p n = false:=by
  cases hh:allB p n
  · rfl
  · rw [allB_iff.1 hh i h] at hp; cases hp
theorem allB_succ {p:Nat → Bool} {i:Nat} (h:allB p i = true) (hp:p i = true):allB p (i + 1) = true:=by
  simp [allB,h,hp]
def strLt (a b:ByteArray):Bool:=Op.bytesLess a.toList b.toList
theorem toList_inj {a b:ByteArray}:a.toList = b.toList ↔ a = b:=by
  rw [ByteArray.toList_eq,ByteArray.toList_eq]
  constructor
  · intro h
    cases a; cases b
    simp only at h
    simp [Array.toList_inj.1 h]
  · rintro rfl; rfl
theorem bl_asymm:∀ x y:List UInt8,Op.bytesLess x y = true → Op.bytesLess y x = false
  | [],[],h => by simp [Op.bytesLess] at h
  | [],_ :: _,_ => by simp [Op.bytesLess]
  | _ :: _,[],h => by simp [Op.bytesLess] at h
  | a :: x,b :: y,h => by
    have ih:=bl_asymm x y
    simp only [Op.bytesLess,Bool.or_eq_true,Bool.and_eq_true,decide_eq_true_eq,beq_iff_eq,Bool.or_eq_false_iff,Bool.and_eq_false_iff,decide_eq_false_iff_not,beq_eq_false_iff_ne] at *
    rcases h with h | ⟨rfl,h⟩
    · exact ⟨fun h' => UInt8.lt_asymm h h',.inl fun e => by subst e; exact UInt8.lt_irrefl _ h⟩
    · exact ⟨UInt8.lt_irrefl _,.inr (ih h)⟩
theorem bl_tri:∀ x y:List UInt8,Op.bytesLess x y = false → Op.bytesLess y x = false → x = y
  | [],[],_,_ => rfl
  | [],_ :: _,h,_ => by simp [Op.bytesLess] at h
  | _ :: _,[],_,h => by simp [Op.bytesLess] at h
  | a :: x,b :: y,h,h' => by
    have ih:=bl_tri x y
    simp only [Op.bytesLess,Bool.or_eq_false_iff,Bool.and_eq_false_iff,decide_eq_false_iff_not,beq_eq_false_iff_ne] at *
    have e:a = b:=UInt8.le_antisymm (UInt8.not_lt.1 h'.1) (UInt8.not_lt.1 h.1)
    subst e
    rw [ih (h.2.resolve_left (by simp)) (h'.2.resolve_left (by simp))]
theorem strLt_asymm {a b:ByteArray} (h:strLt a b = true):strLt b a = false:=by
  exact bl_asymm _ _ h
theorem strLt_tri {a b:ByteArray} (h:strLt a b = false) (h':strLt b a = false):a = b:=by
  exact toList_inj.1 (bl_tri _ _ h h')
theorem strLt_self (a:ByteArray):strLt a a = false:=by
  cases h:strLt a a
  · rfl
  · rw [strLt_asymm h] at h; cases h
def cmpStr (a b:ByteArray):Int:=if strLt a b = true then -1 else if strLt b a = true then 1 else 0
@[simp] def h222:Hts:={  }
theorem f222_ok (x:ByteArray):FnR Tryz.prog 222 [.v (.str x)] (.v (.bool false)):=by
  refine FnW.of_AW TryzT_ok 0 (fn:=Tryz.f222) (by kernel_rfl) rfl (by kernel_rfl) rfl rfl rfl ?_; refine AW_of h222 TryzT_ok (by kernel_rfl) ?_
  simp -dsimp
@[simp] def h197:Hts:={  }
theorem f197_ok (a b:ByteArray):FnR Tryz.prog 197 [.v (.str a),.v (.str b)] (.v (.int .i64 (cmpStr a b))):=by
  refine FnW.of_AW TryzT_ok 0 (fn:=Tryz.f197) (by kernel_rfl) rfl (by kernel_rfl) rfl rfl rfl ?_; refine AW_of h197 TryzT_ok (by kernel_rfl) ?_
  simp -dsimp
  refine ACallK_of (f222_ok _) ?_
  simp -dsimp
  refine ACallK_of (f222_ok _) ?_
  simp -dsimp
  show (strLt a b = true → -1 = cmpStr a b) ∧ (strLt a b = false → (strLt a b = false → ¬a = b → 1 = cmpStr a b) ∧ ((strLt a b = false → a = b) → 0 = cmpStr a b))
  refine ⟨fun h => by simp [cmpStr,h],fun h => ⟨fun _ e => ?_,fun h' => ?_⟩⟩
  · cases h':strLt b a
    · exact absurd (strLt_tri h h') e
    · simp [cmpStr,h,h']
  · obtain rfl:=h' h
    simp [cmpStr,strLt_self]
def cmpTally (a b:GTally):Int:=orInt [cmpStr a.obj b.obj,cmpInt a.rep b.rep]
@[simp] def h158:Hts:={ dr:=fun id => if id = 1 then [{},{},{},{},{ cr:=true },{ mb:=[9] },{ mb:=[9] },{ mb:=[9] },{ mb:=[9] },{ cr:=true },{ cr:=true },{ cr:=true },{}] else [] }
theorem f158_ok (a b:GTally):FnR Tryz.prog 158 [.agg [.str a.obj,.int .i64 a.rep,.int .i64 a.sum],.agg [.str b.obj,.int .i64 b.rep,.int .i64 b.sum]] (.v (.int .i64 (cmpTally a b))):=by
  refine FnW.of_AW TryzT_ok 0 (fn:=Tryz.f158) (by kernel_rfl) rfl (by kernel_rfl) rfl rfl rfl ?_; refine AW_of h158 TryzT_ok (by kernel_rfl) ?_
  simp -dsimp
  refine ACallK_of (f197_ok _ _) ?_
  simp -dsimp
  refine ACallK_of (f166_ok _ _) ?_
  simp -dsimp
  refine ACallK_of (f165_ok [cmpStr a.obj b.obj,cmpInt a.rep b.rep] (by simp)) ?_
  simp -dsimp
  rfl
def tallyOk (t:GTally):Bool:=nameOk t.obj && spIn t.rep 0 2 && spIn t.sum 0 999999
def tallyLt (a b:GTally):Bool:=strLt a.obj b.obj || decide (a.obj = b.obj) && decide (a.rep < b.rep)
def talAt (l:List GTally) (i:Nat):Bool:=tallyOk (nth l i) && (decide (i = 0) || tallyLt (nth l (i - 1)) (nth l i))
def talliesOk (l:List GTally):Bool:=decide (l.length ≤ 120) && allB (talAt l) l.length
theorem cmpTally_lt (a b:GTally):(0 ≤ cmpTally a b) ↔ tallyLt a b = false:=by
  unfold cmpTally tallyLt orInt orInt orInt cmpInt cmpStr
  cases h:strLt a.obj b.obj
  · cases h':strLt b.obj a.obj
    · have e:=strLt_tri h h'
      simp [e,strLt_self]
      split <;> (try split) <;> (try split) <;> omega
    · have e:a.obj ≠ b.obj:=fun e => by rw [e,strLt_self] at h'; cases h'
      simp [e]
  · simp
theorem talliesOk_false {l:List GTally} {i:Nat} (h1:i < l.length) (h:talAt l i = false):talliesOk l = false:=by
  simp only [talliesOk,allB_false h1 h,Bool.and_false]
theorem talliesOk_end {l:List GTally} (h:allB (talAt l) l.length = true):talliesOk l = decide (l.length ≤ 120):=by
  simp only [talliesOk,h,Bool.and_true]
end Am
namespace Am
open Go Go.Proofs
open Cel (cells)
set_option maxRecDepth 100000
@[simp] def h64:Hts:={ merge:=fun t => decide (t < 34),mergeF:=fun f => f == 86 || f == 128,dr:=fun id => if id = 7 then [{},{},{},{},{},{},{},{},{},{},{},{},{},{},{},{},{},{},{},{},{},{},{},{},{},{},{},{},{},{},{},{},{},{},{}] else [] }
set_option maxHeartbeats 1000000 in
theorem f64_ok (l:List GTally) (ha:l.length ≤ 1073741824) (he:∀ x,x ∈ l → x.Ok):FnR Tryz.prog 64 [.v (.im l.length (flat l))] (.v (.bool (talliesOk l))):=by
  refine FnW.of_AW TryzT_ok 0 (fn:=Tryz.f64) (by kernel_rfl) rfl (by kernel_rfl) rfl rfl rfl ?_; refine AW_of h64 TryzT_ok (by kernel_rfl) ?_
  simp -dsimp
  refine AWh_loop (fun i:Nat => i ≤ l.length ∧ allB (talAt l) i = true) (fun i => mkE [(0,.c (.im l.length (flat l))),(3,.c (.int .i64 i))] []) (fun i => l.length - i) 0 (Wk_to [0,3] [] rfl rfl (by simp)) (by simp [allB]) ?_
  rintro i ⟨hi,hall⟩
  refine AW_of h64 TryzT_ok (by kernel_rfl) ?_
  rcases Nat.lt_or_ge i l.length with h1 | h1
  · have hb:(nth l i).obj.size ≤ 9223372036854775807:=by
      have:=he _ (nth_mem h1)
      simp only [GTally.Ok] at this
      omega
    have ho:=nth_mem h1
    rcases Nat.eq_zero_or_pos i with hz | hz
    · have hz':¬ 0 < i:=by omega
      simp -dsimp [h1,ne_of_lt h1,hz']
      refine ⟨by omega,?_⟩
      refine ACallK_of (f128_ok _ hb) ?_
      simp -dsimp
      refine ACallK_of (f86_ok _ _ _) ?_
      simp -dsimp
      refine ACallK_of (f86_ok _ _ _) ?_
      cases hc:(!nameOk (nth l i).obj || !spIn (nth l i).rep 0 2 || !spIn (nth l i).sum 0 999999)
      · simp only [Bool.or_eq_false_iff,Bool.not_eq_false'] at hc
        obtain ⟨⟨g1,g2⟩,g3⟩:=hc
        simp -dsimp [h1,ne_of_lt h1,hz',g1,g2,g3]
        exact Back_of (i + 1) [0,3] [] rfl rfl (by simp; rw [wrap64 (by omega) (by omega)]) ⟨by omega,allB_succ hall (by subst hz; simp [talAt,tallyOk,g1,g2,g3])⟩ (by omega)
      · simp -dsimp [hc]
        exact talliesOk_false h1 (by simp [talAt,tallyOk]; simp at hc; intros; simp_all)
    · have w:IntKind.i64.wrap ((i:Int) - 1) = i - 1:=wrap64 (by omega) (by omega)
      have t1:((i:Int) - 1).toNat = i - 1:=by omega
      have h3:i - 1 < l.length:=by omega
      have hn:¬ i = 0:=by omega
      simp -dsimp [h1,ne_of_lt h1,hz,w,t1,h3]
      refine ⟨by omega,?_⟩
      refine ACallK_of (f128_ok _ hb) ?_
      simp -dsimp
      refine ACallK_of (f86_ok _ _ _) ?_
      simp -dsimp
      refine ACallK_of (f86_ok _ _ _) ?_
      cases hc:(!nameOk (nth l i).obj || !spIn (nth l i).rep 0 2 || !spIn (nth l i).sum 0 999999)
      · simp only [Bool.or_eq_false_iff,Bool.not_eq_false'] at hc
        obtain ⟨⟨g1,g2⟩,g3⟩:=hc
        by_cases e:(nth l (i - 1)).obj = (nth l i).obj
        · have e2:strLt (nth l i).obj (nth l i).obj = false:=strLt_self _
          simp -dsimp [h1,ne_of_lt h1,hz,w,t1,h3,e,g1,g2,g3]
          refine ⟨⟨by omega,by omega⟩,fun h => ?_,fun h => ?_⟩
          · exact talliesOk_false h1 (by simp [talAt,tallyLt,e,e2,hn,h])
          · exact Back_of (i + 1) [0,3] [] rfl rfl (by simp; rw [wrap64 (by omega) (by omega)]) ⟨by omega,allB_succ hall (by simp [talAt,tallyOk,tallyLt,g1,g2,g3,e,e2,h])⟩ (by omega)
        · cases e2:Op.bytesLess (nth l (i - 1)).obj.toList (nth l i).obj.toList
          · simp -dsimp [h1,ne_of_lt h1,hz,w,t1,h3,e,e2,g1,g2,g3]
            refine ⟨⟨by omega,by omega⟩,?_⟩
            exact talliesOk_false h1 (by simp [talAt,tallyLt,e,strLt,e2,hn])
          · simp -dsimp [h1,ne_of_lt h1,hz,w,t1,h3,e,e2,g1,g2,g3]
            refine ⟨⟨by omega,by omega⟩,?_⟩
            exact Back_of (i + 1) [0,3] [] rfl rfl (by simp; rw [wrap64 (by omega) (by omega)]) ⟨by omega,allB_succ hall (by simp [talAt,tallyOk,tallyLt,g1,g2,g3,strLt,e2])⟩ (by omega)
      · simp -dsimp [hc]
        exact talliesOk_false h1 (by simp [talAt,tallyOk]; simp at hc; intros; simp_all)
  · simp -dsimp [Nat.not_lt.2 h1]
    obtain rfl:i = l.length:=by omega
    rw [talliesOk_end hall,Bool.eq_iff_iff]
    simp
    omega
end Am
