/- Functions of the program keep their contracts. No condition. -/
import Derived.Test.YteidfkbfocdnmaaGreatT
import Derived.Test.YteidfkbfocdnmaaGreatAm23
import Derived.Test.YteidfkbfocdnmaaGreatAm26
import Derived.Test.YteidfkbfocdnmaaGreatD
import Derived.Test.YteidfkbfocdnmaaGreatAm29
import Derived.Test.YteidfkbfocdnmaaGreatAm31
set_option linter.unusedSimpArgs false
set_option linter.unusedVariables false
set_option linter.unnecessarySimpa false
set_option linter.unusedSectionVars false
namespace Am
open Go Go.Proofs
def spIn (x lo hi:Int):Bool:=decide (lo ≤ x) && decide (x ≤ hi)
def letters (s:ByteArray):Bool:=decide (∀ j:Nat,j < s.size → 97 ≤ bt s j ∧ bt s j ≤ 122)
def nameOk (s:ByteArray):Bool:=letters s && spIn s.size 1 8
theorem bt_range (s:ByteArray) (i:Int):0 ≤ bt s i ∧ bt s i < 256:=by
  unfold bt
  have:=(s.data.toList.getD i.toNat 0).toNat_lt
  omega
theorem letters_false {s:ByteArray} {i:Nat} (h1:i < s.size) (h:¬ (97 ≤ bt s i ∧ bt s i ≤ 122)):letters s = false:=by
  simp only [letters,decide_eq_false_iff_not]
  intro hh
  exact h (hh i h1)
@[simp] def h162:Hts:={  }
theorem f162_ok (x lo hi:Int):FnR Tryz.prog 162 [.v (.int .i64 x),.v (.int .i64 lo),.v (.int .i64 hi)] (.v (.bool (spIn x lo hi))):=by
  refine FnW.of_AW TryzT_ok 0 (fn:=Tryz.f162) (by kernel_rfl) rfl (by kernel_rfl) rfl rfl rfl ?_; refine AW_of h162 TryzT_ok (by kernel_rfl) ?_
  simp -dsimp
  rfl
@[simp] def h156:Hts:={  }
theorem f156_ok (x lo hi:Int):FnR Tryz.prog 156 [.v (.int .i64 x),.v (.int .i64 lo),.v (.int .i64 hi)] (.v (.bool (spIn x lo hi))):=by
  refine FnW.of_AW TryzT_ok 0 (fn:=Tryz.f156) (by kernel_rfl) rfl (by kernel_rfl) rfl rfl rfl ?_; refine AW_of h156 TryzT_ok (by kernel_rfl) ?_
  simp -dsimp
  rfl
@[simp] def h286:Hts:={ mergeF:=fun f => f == 162 }
theorem f286_ok (s:ByteArray) (hs:s.size ≤ 9223372036854775807):FnR Tryz.prog 286 [.v (.str s)] (.v (.bool (nameOk s))):=by
  refine FnW.of_AW TryzT_ok 0 (fn:=Tryz.f286) (by kernel_rfl) rfl (by kernel_rfl) rfl rfl rfl ?_; refine AW_of h286 TryzT_ok (by kernel_rfl) ?_
  simp -dsimp
  refine AWh_loop (fun i:Nat => i ≤ s.size ∧ ∀ j:Nat,j < i → 97 ≤ bt s j ∧ bt s j ≤ 122) (fun i => mkE [(0,.c (.str s)),(3,.c (.int .i64 i))] []) (fun i => s.size - i) 0 (Wk_to [0,3] [] rfl rfl (by simp)) (by simp) ?_
  rintro i ⟨hi,hall⟩
  refine AW_of h286 TryzT_ok (by kernel_rfl) ?_
  rcases Nat.lt_or_ge i s.size with h1 | h1
  · simp -dsimp [h1]
    refine ⟨fun h2 => ?_,fun h2 h3 => ?_⟩
    · simp [nameOk,letters_false h1 (by omega)]
    · refine Back_of (i + 1) [0,3] [] rfl rfl (by simp; rw [wrap64 (by omega) (by omega)]) ⟨by omega,fun j hj => ?_⟩ (by omega)
      by_cases e:j = i
      · subst e; exact ⟨h2,h3⟩
      · exact hall j (by omega)
  · simp -dsimp [Nat.not_lt.2 h1]
    refine ACallK_of (f162_ok _ _ _) ?_
    simp -dsimp
    have:letters s = true:=by
      simp only [letters,decide_eq_true_eq]
      intro j hj
      exact hall j (by omega)
    simp [nameOk,this]
@[simp] def h283:Hts:={ mergeF:=fun f => f == 156 }
theorem f283_ok (s:ByteArray) (hs:s.size ≤ 9223372036854775807):FnR Tryz.prog 283 [.v (.str s)] (.v (.bool (nameOk s))):=by
  refine FnW.of_AW TryzT_ok 0 (fn:=Tryz.f283) (by kernel_rfl) rfl (by kernel_rfl) rfl rfl rfl ?_; refine AW_of h283 TryzT_ok (by kernel_rfl) ?_
  simp -dsimp
  refine AWh_loop (fun i:Nat => i ≤ s.size ∧ ∀ j:Nat,j < i → 97 ≤ bt s j ∧ bt s j ≤ 122) (fun i => mkE [(0,.c (.str s)),(3,.c (.int .i64 i))] []) (fun i => s.size - i) 0 (Wk_to [0,3] [] rfl rfl (by simp)) (by simp) ?_
  rintro i ⟨hi,hall⟩
  refine AW_of h283 TryzT_ok (by kernel_rfl) ?_
  rcases Nat.lt_or_ge i s.size with h1 | h1
  · simp -dsimp [h1]
    refine ACallK_of (f156_ok _ _ _) ?_
    have:=bt_range s i
    rw [wrap64 (by omega) (by omega)]
    simp -dsimp [spIn]
    refine ⟨fun h2 => ?_,fun h2 h3 => ?_⟩
    · simp [nameOk,letters_false h1 (by omega)]
    · refine Back_of (i + 1) [0,3] [] rfl rfl (by simp; rw [wrap64 (by omega) (by omega)]) ⟨by omega,fun j hj => ?_⟩ (by omega)
      by_cases e:j = i
      · subst e; exact ⟨h2,h3⟩
      · exact hall j (by omega)
  · simp -dsimp [Nat.not_lt.2 h1]
    refine ACallK_of (f156_ok _ _ _) ?_
    simp -dsimp
    have:letters s = true:=by
      simp only [letters,decide_eq_true_eq]
      intro j hj
      exact hall j (by omega)
    simp [nameOk,this]
def valued (x:Int):Bool:=x == 1 || x == 4 || x == 6
@[simp] def h281:Hts:={ mergeF:=fun f => f == 162 }
theorem f281_ok (x:Int):FnR Tryz.prog 281 [.v (.int .i64 x)] (.v (.bool (spIn x 2 5))):=by
  refine FnW.of_AW TryzT_ok 0 (fn:=Tryz.f281) (by kernel_rfl) rfl (by kernel_rfl) rfl rfl rfl ?_; refine AW_of h281 TryzT_ok (by kernel_rfl) ?_
  simp -dsimp
  refine ACallK_of (f162_ok _ _ _) ?_
  simp -dsimp
@[simp] def h282:Hts:={  }
theorem f282_ok (x:Int):FnR Tryz.prog 282 [.v (.int .i64 x)] (.v (.bool (valued x))):=by
  refine FnW.of_AW TryzT_ok 0 (fn:=Tryz.f282) (by kernel_rfl) rfl (by kernel_rfl) rfl rfl rfl ?_; refine AW_of h282 TryzT_ok (by kernel_rfl) ?_
  simp -dsimp
  rfl
@[simp] def h284:Hts:={ mergeF:=fun f => f == 156 }
theorem f284_ok (x:Int):FnR Tryz.prog 284 [.v (.int .i64 x)] (.v (.bool (spIn x 2 5))):=by
  refine FnW.of_AW TryzT_ok 0 (fn:=Tryz.f284) (by kernel_rfl) rfl (by kernel_rfl) rfl rfl rfl ?_; refine AW_of h284 TryzT_ok (by kernel_rfl) ?_
  simp -dsimp
  refine ACallK_of (f156_ok _ _ _) ?_
  simp -dsimp
@[simp] def h285:Hts:={  }
theorem f285_ok (x:Int):FnR Tryz.prog 285 [.v (.int .i64 x)] (.v (.bool (valued x))):=by
  refine FnW.of_AW TryzT_ok 0 (fn:=Tryz.f285) (by kernel_rfl) rfl (by kernel_rfl) rfl rfl rfl ?_; refine AW_of h285 TryzT_ok (by kernel_rfl) ?_
  simp -dsimp
  rfl
def plain (k v:Int) (ob key:ByteArray):Bool:=spIn k 1 7 && nameOk ob && (if spIn k 2 5 then nameOk key else decide (key.toList = [])) && (v == 0 || valued k && spIn v 0 999999)
@[simp] def h165:Hts:={ mergeF:=fun f => f == 162 || f == 281 || f == 282 || f == 286 }
theorem f165_ok (k v:Int) (ob key:ByteArray) (h1:ob.size ≤ 9223372036854775807) (h2:key.size ≤ 9223372036854775807) :
    FnR Tryz.prog 165 [.v (.int .i64 k),.v (.str ob),.v (.str key),.v (.int .i64 v)] (.v (.bool (plain k v ob key))):=by
  refine FnW.of_AW TryzT_ok 0 (fn:=Tryz.f165) (by kernel_rfl) rfl (by kernel_rfl) rfl rfl rfl ?_; refine AW_of h165 TryzT_ok (by kernel_rfl) ?_
  simp -dsimp
  repeat' (first
    | (refine ACallK_of (f162_ok _ _ _) ?_; simp -dsimp)
    | (refine ACallK_of (f286_ok _ (by assumption)) ?_; simp -dsimp)
    | (refine ACallK_of (f281_ok _) ?_; simp -dsimp)
    | (refine ACallK_of (f282_ok _) ?_; simp -dsimp)
    | refine And.intro ?_ ?_
    | intro _)
  all_goals first | assumption | grind [plain] | trace_state
@[simp] def h164:Hts:={ mergeF:=fun f => f == 156 || f == 283 || f == 284 || f == 285 }
theorem f164_ok (k v:Int) (ob key:ByteArray) (h1:ob.size ≤ 9223372036854775807) (h2:key.size ≤ 9223372036854775807) :
    FnR Tryz.prog 164 [.v (.int .i64 k),.v (.str ob),.v (.str key),.v (.int .i64 v)] (.v (.bool (plain k v ob key))):=by
  refine FnW.of_AW TryzT_ok 0 (fn:=Tryz.f164) (by kernel_rfl) rfl (by kernel_rfl) rfl rfl rfl ?_; refine AW_of h164 TryzT_ok (by kernel_rfl) ?_
  simp -dsimp
  repeat' (first
    | (refine ACallK_of (f156_ok _ _ _) ?_; simp -dsimp)
    | (refine ACallK_of (f283_ok _ (by assumption)) ?_; simp -dsimp)
    | (refine ACallK_of (f284_ok _) ?_; simp -dsimp)
    | (refine ACallK_of (f285_ok _) ?_; simp -dsimp)
    | refine And.intro ?_ ?_
    | intro _)
  all_goals first | assumption | grind [plain] | trace_state
end Am
namespace Am
open Go Go.Proofs
open Cel (cells)
set_option maxRecDepth 100000
def knowOk (k:List Int):Bool:=decide (k.length = 3) && decide (∀ j:Nat,j < k.length → 0 ≤ nth k j ∧ nth k j ≤ 1000)
def dotOk (d:GDot):Bool:=spIn d.rep 0 2 && spIn d.seq 1 1000
def knows (k:List Int) (d:GDot):Bool:=knowOk k && dotOk d && decide (d.seq ≤ nth k d.rep.toNat)
@[simp] def h128:Hts:={ mergeF:=fun f => f == 162 }
theorem f128_ok (k:List Int) (ha:k.length ≤ 1073741824):FnR Tryz.prog 128 [.v (.im k.length (flat k))] (.v (.bool (knowOk k))):=by
  refine FnW.of_AW TryzT_ok 0 (fn:=Tryz.f128) (by kernel_rfl) rfl (by kernel_rfl) rfl rfl rfl ?_; refine AW_of h128 TryzT_ok (by kernel_rfl) ?_
  simp -dsimp
  refine AWh_loop (fun i:Nat => i ≤ k.length ∧ ∀ j:Nat,j < i → 0 ≤ nth k j ∧ nth k j ≤ 1000) (fun i => mkE [(0,.c (.im k.length (flat k))),(3,.c (.int .i64 i))] []) (fun i => k.length - i) 0 (Wk_to [0,3] [] rfl rfl (by simp)) (by simp) ?_
  rintro i ⟨hi,hall⟩
  refine AW_of h128 TryzT_ok (by kernel_rfl) ?_
  rcases Nat.lt_or_ge i k.length with h1 | h1
  · simp -dsimp [h1,ne_of_lt h1]
    refine ACallK_of (f162_ok _ _ _) ?_
    simp -dsimp
    refine ⟨fun h => ?_,fun h => ?_⟩
    · simp only [knowOk,Bool.and_eq_false_iff,decide_eq_false_iff_not]
      refine .inr fun hh => ?_
      have:=hh i h1
      simp [spIn] at h
      omega
    · simp [spIn] at h
      refine Back_of (i + 1) [0,3] [] rfl rfl (by simp; rw [wrap64 (by omega) (by omega)]) ⟨by omega,fun j hj => ?_⟩ (by omega)
      by_cases e:j = i
      · subst e; exact h
      · exact hall j (by omega)
  · simp -dsimp [Nat.not_lt.2 h1]
    have:∀ j:Nat,j < k.length → 0 ≤ nth k j ∧ nth k j ≤ 1000:=fun j hj => hall j (by omega)
    rw [Bool.eq_iff_iff]
    simp [knowOk]
    constructor
    · intro h; exact ⟨by omega,this⟩
    · intro h; omega
@[simp] def h129:Hts:={ mergeF:=fun f => f == 162 }
theorem f129_ok (d:GDot):FnR Tryz.prog 129 [.agg [.int .i64 d.rep,.int .i64 d.seq]] (.v (.bool (dotOk d))):=by
  refine FnW.of_AW TryzT_ok 0 (fn:=Tryz.f129) (by kernel_rfl) rfl (by kernel_rfl) rfl rfl rfl ?_; refine AW_of h129 TryzT_ok (by kernel_rfl) ?_
  simp -dsimp
  repeat' (first
    | (refine ACallK_of (f162_ok _ _ _) ?_; simp -dsimp)
    | refine And.intro ?_ ?_
    | intro _)
  all_goals first | assumption | rfl | trace_state
theorem dot_range {k:List Int} {d:GDot} (h1:knowOk k = true) (h2:dotOk d = true):d.rep.toNat < k.length ∧ 0 ≤ d.rep ∧ d.rep < k.length:=by
  simp [knowOk] at h1
  simp [dotOk,spIn] at h2
  omega
@[simp] def h17:Hts:={ mergeF:=fun f => f == 128 || f == 129,dr:=fun id => if id = 1 then [{},{ cr:=true },{},{},{ cr:=true },{},{},{},{},{},{},{},{},{},{},{},{}] else [] }
theorem f17_ok (k:List Int) (d:GDot) (ha:k.length ≤ 1073741824):FnR Tryz.prog 17 [.v (.im k.length (flat k)),.agg [.int .i64 d.rep,.int .i64 d.seq]] (.v (.bool (knows k d))):=by
  refine FnW.of_AW TryzT_ok 0 (fn:=Tryz.f17) (by kernel_rfl) rfl (by kernel_rfl) rfl rfl rfl ?_; refine AW_of h17 TryzT_ok (by kernel_rfl) ?_
  by_cases hb:knowOk k = true ∧ dotOk d = true
  · obtain ⟨r1,r2,r3⟩:=dot_range hb.1 hb.2
    simp -dsimp
    refine ACallK_of (f128_ok _ ha) ?_
    simp -dsimp [hb.1]
    refine ACallK_of (f129_ok _) ?_
    simp -dsimp [hb.2,r1,ne_of_lt r1]
    exact ⟨⟨r2,by omega⟩,by simp [knows,hb.1,hb.2]⟩
  · have hf:(knowOk k && dotOk d) = false:=by
      cases h1:knowOk k <;> cases h2:dotOk d <;> simp_all
    simp -dsimp
    refine ACallK_of (f128_ok _ ha) ?_
    simp -dsimp
    refine ACallK_of (f129_ok _) ?_
    simp -dsimp [hf]
    simp [knows,hf]
@[simp] def h223:Hts:={ mergeF:=fun f => f == 156 }
theorem f223_ok (k:List Int) (ha:k.length ≤ 1073741824):FnR Tryz.prog 223 [.v (.im k.length (flat k))] (.v (.bool (knowOk k))):=by
  refine FnW.of_AW TryzT_ok 0 (fn:=Tryz.f223) (by kernel_rfl) rfl (by kernel_rfl) rfl rfl rfl ?_; refine AW_of h223 TryzT_ok (by kernel_rfl) ?_
  simp -dsimp
  refine AWh_loop (fun i:Nat => i ≤ k.length ∧ ∀ j:Nat,j < i → 0 ≤ nth k j ∧ nth k j ≤ 1000) (fun i => mkE [(0,.c (.im k.length (flat k))),(5,.c (.im k.length (flat k))),(6,.c (.int .i64 k.length)),(7,.c (.int .i64 i))] []) (fun i => k.length - i) 0 (Wk_to [0,5,6,7] [] rfl rfl (by simp)) (by simp) ?_
  rintro i ⟨hi,hall⟩
  refine AW_of h223 TryzT_ok (by kernel_rfl) ?_
  rcases Nat.lt_or_ge i k.length with h1 | h1
  · simp -dsimp [h1,ne_of_lt h1]
    refine ACallK_of (f156_ok _ _ _) ?_
    simp -dsimp
    refine ⟨fun h => ?_,fun h => ?_⟩
    · simp only [knowOk,Bool.and_eq_false_iff,decide_eq_false_iff_not]
      refine .inr fun hh => ?_
      have:=hh i h1
      simp [spIn] at h
      omega
    · simp [spIn] at h
      refine Back_of (i + 1) [0,5,6,7] [] rfl rfl (by simp; rw [wrap64 (by omega) (by omega)]) ⟨by omega,fun j hj => ?_⟩ (by omega)
      by_cases e:j = i
      · subst e; exact h
      · exact hall j (by omega)
  · simp -dsimp [Nat.not_lt.2 h1]
    have:∀ j:Nat,j < k.length → 0 ≤ nth k j ∧ nth k j ≤ 1000:=fun j hj => hall j (by omega)
    rw [Bool.eq_iff_iff]
    simp [knowOk]
    constructor
    · intro h; exact ⟨by omega,this⟩
    · intro h; omega
@[simp] def h263:Hts:={ mergeF:=fun f => f == 156 }
theorem f263_ok (d:GDot):FnR Tryz.prog 263 [.agg [.int .i64 d.rep,.int .i64 d.seq]] (.v (.bool (dotOk d))):=by
  refine FnW.of_AW TryzT_ok 0 (fn:=Tryz.f263) (by kernel_rfl) rfl (by kernel_rfl) rfl rfl rfl ?_; refine AW_of h263 TryzT_ok (by kernel_rfl) ?_
  simp -dsimp
  repeat' (first
    | (refine ACallK_of (f156_ok _ _ _) ?_; simp -dsimp)
    | refine And.intro ?_ ?_
    | intro _)
  all_goals first | assumption | rfl | trace_state
@[simp] def h125:Hts:={ mergeF:=fun f => f == 223 || f == 263,dr:=fun id => if id = 1 then [{},{ cr:=true },{},{},{ cr:=true },{},{},{},{},{},{},{},{},{},{},{},{}] else [] }
theorem f125_ok (k:List Int) (d:GDot) (ha:k.length ≤ 1073741824):FnR Tryz.prog 125 [.v (.im k.length (flat k)),.agg [.int .i64 d.rep,.int .i64 d.seq]] (.v (.bool (knows k d))):=by
  refine FnW.of_AW TryzT_ok 0 (fn:=Tryz.f125) (by kernel_rfl) rfl (by kernel_rfl) rfl rfl rfl ?_; refine AW_of h125 TryzT_ok (by kernel_rfl) ?_
  by_cases hb:knowOk k = true ∧ dotOk d = true
  · obtain ⟨r1,r2,r3⟩:=dot_range hb.1 hb.2
    simp -dsimp
    refine ACallK_of (f223_ok _ ha) ?_
    simp -dsimp [hb.1]
    refine ACallK_of (f263_ok _) ?_
    simp -dsimp [hb.2,r1,ne_of_lt r1]
    exact ⟨⟨r2,by omega⟩,by simp [knows,hb.1,hb.2]⟩
  · have hf:(knowOk k && dotOk d) = false:=by
      cases h1:knowOk k <;> cases h2:dotOk d <;> simp_all
    simp -dsimp
    refine ACallK_of (f223_ok _ ha) ?_
    simp -dsimp
    refine ACallK_of (f263_ok _) ?_
    simp -dsimp [hf]
    simp [knows,hf]
def knowIn (a b:List Int):Bool:=knowOk a && knowOk b && decide (∀ j:Nat,j < a.length → nth a j ≤ nth b j)
def before (a b:GDot):Bool:=decide (a.rep < b.rep) || decide (a.rep = b.rep) && decide (a.seq < b.seq)
@[simp] def h89:Hts:={ mergeF:=fun f => f == 128,dr:=fun id => if id = 6 then [{},{},{},{},{},{},{},{},{}] else [] }
theorem f89_ok (a b:List Int) (ha:a.length ≤ 1073741824) (hb:b.length ≤ 1073741824):FnR Tryz.prog 89 [.v (.im a.length (flat a)),.v (.im b.length (flat b))] (.v (.bool (knowIn a b))):=by
  refine FnW.of_AW TryzT_ok 0 (fn:=Tryz.f89) (by kernel_rfl) rfl (by kernel_rfl) rfl rfl rfl ?_; refine AW_of h89 TryzT_ok (by kernel_rfl) ?_
  simp -dsimp
  refine ACallK_of (f128_ok _ ha) ?_
  simp -dsimp
  refine ACallK_of (f128_ok _ hb) ?_
  simp -dsimp
  refine ⟨fun h => ?_,fun ka kb => ?_⟩
  · rcases h with h | h <;> simp [knowIn,h]
  have la:a.length = b.length:=by
    simp [knowOk] at ka kb
    omega
  refine AWh_loop (fun i:Nat => i ≤ a.length ∧ ∀ j:Nat,j < i → nth a j ≤ nth b j) (fun i => mkE [(0,.c (.im a.length (flat a))),(1,.c (.im b.length (flat b))),(5,.c (.int .i64 i))] []) (fun i => a.length - i) 0 (Wk_to [0,1,5] [] rfl rfl (by simp)) (by simp) ?_
  rintro i ⟨hi,hall⟩
  refine AW_of h89 TryzT_ok (by kernel_rfl) ?_
  rcases Nat.lt_or_ge i a.length with h1 | h1
  · have h2:i < b.length:=by omega
    simp -dsimp [h1,h2,ne_of_lt h1,ne_of_lt h2]
    refine ⟨fun h => ?_,fun h => ?_⟩
    · have:decide (∀ j:Nat,j < a.length → nth a j ≤ nth b j) = false:=by
        rw [decide_eq_false_iff_not]
        intro hh
        have:=hh i h1
        omega
      simp only [knowIn,this,Bool.and_false]
    · refine Back_of (i + 1) [0,1,5] [] rfl rfl (by simp; rw [wrap64 (by omega) (by omega)]) ⟨by omega,fun j hj => ?_⟩ (by omega)
      by_cases e:j = i
      · subst e; exact h
      · exact hall j (by omega)
  · simp -dsimp [Nat.not_lt.2 h1]
    have:decide (∀ j:Nat,j < a.length → nth a j ≤ nth b j) = true:=by
      rw [decide_eq_true_eq]
      exact fun j hj => hall j (by omega)
    simp only [knowIn,this,ka,kb,Bool.and_self]
@[simp] def h305:Hts:={ mergeF:=fun f => f == 223 }
theorem f305_ok (a b:List Int) (ha:a.length ≤ 1073741824) (hb:b.length ≤ 1073741824):FnR Tryz.prog 305 [.v (.im a.length (flat a)),.v (.im b.length (flat b))] (.v (.bool (knowIn a b))):=by
  refine FnW.of_AW TryzT_ok 0 (fn:=Tryz.f305) (by kernel_rfl) rfl (by kernel_rfl) rfl rfl rfl ?_; refine AW_of h305 TryzT_ok (by kernel_rfl) ?_
  simp -dsimp
  refine ACallK_of (f223_ok _ ha) ?_
  simp -dsimp
  refine ACallK_of (f223_ok _ hb) ?_
  simp -dsimp
  refine ⟨fun h => ?_,fun ka kb => ?_⟩
  · rcases h with h | h <;> simp [knowIn,h]
  have la:a.length = b.length:=by
    simp [knowOk] at ka kb
    omega
  refine AWh_loop (fun i:Nat => i ≤ a.length ∧ ∀ j:Nat,j < i → nth a j ≤ nth b j) (fun i => mkE [(0,.c (.im a.length (flat a))),(1,.c (.im b.length (flat b))),(15,.c (.im a.length (flat a))),(16,.c (.int .i64 a.length)),(17,.c (.int .i64 i))] []) (fun i => a.length - i) 0 (Wk_to [0,1,15,16,17] [] rfl rfl (by simp)) (by simp) ?_
  rintro i ⟨hi,hall⟩
  refine AW_of h305 TryzT_ok (by kernel_rfl) ?_
  rcases Nat.lt_or_ge i a.length with h1 | h1
  · have h2:i < b.length:=by omega
    simp -dsimp [h1,h2,ne_of_lt h1,ne_of_lt h2]
    refine ⟨fun h => ?_,fun h => ?_⟩
    · have:decide (∀ j:Nat,j < a.length → nth a j ≤ nth b j) = false:=by
        rw [decide_eq_false_iff_not]
        intro hh
        have:=hh i h1
        omega
      simp only [knowIn,this,Bool.and_false]
    · refine Back_of (i + 1) [0,1,15,16,17] [] rfl rfl (by simp; rw [wrap64 (by omega) (by omega)]) ⟨by omega,fun j hj => ?_⟩ (by omega)
      by_cases e:j = i
      · subst e; exact h
      · exact hall j (by omega)
  · simp -dsimp [Nat.not_lt.2 h1]
    have:decide (∀ j:Nat,j < a.length → nth a j ≤ nth b j) = true:=by
      rw [decide_eq_true_eq]
      exact fun j hj => hall j (by omega)
    simp only [knowIn,this,ka,kb,Bool.and_self]
@[simp] def h277:Hts:={  }
theorem f277_ok (a b:GDot):FnR Tryz.prog 277 [.agg [.int .i64 a.rep,.int .i64 a.seq],.agg [.int .i64 b.rep,.int .i64 b.seq]] (.v (.bool (before a b))):=by
  refine FnW.of_AW TryzT_ok 0 (fn:=Tryz.f277) (by kernel_rfl) rfl (by kernel_rfl) rfl rfl rfl ?_; refine AW_of h277 TryzT_ok (by kernel_rfl) ?_
  simp -dsimp
  all_goals (try (rw [Bool.eq_iff_iff]; simp [before]; done))
  all_goals (try grind [before])
def dotsOk (l:List GDot):Bool:=decide (l.length ≤ 120) && decide (∀ i:Nat,i < l.length → dotOk (nth l i) = true ∧ (0 < i → before (nth l (i - 1)) (nth l i) = true))
theorem dotsOk_false {l:List GDot} {i:Nat} (h1:i < l.length) (h:¬ (dotOk (nth l i) = true ∧ (0 < i → before (nth l (i - 1)) (nth l i) = true))):dotsOk l = false:=by
  simp only [dotsOk,Bool.and_eq_false_iff,decide_eq_false_iff_not]
  exact .inr fun hh => h (hh i h1)
@[simp] def h206:Hts:={ merge:=fun t => !(t == 24 || t == 28 || t == 29 || t == 30 || t == 31),mergeF:=fun f => f == 129 || f == 277,dr:=fun id => if id = 4 then [{},{},{},{},{ cr:=true },{},{},{},{},{},{},{},{},{},{},{},{},{},{},{ cr:=true },{},{},{}] else [] }
theorem f206_ok (l:List GDot) (ha:l.length ≤ 1073741824):FnR Tryz.prog 206 [.v (.im l.length (flat l))] (.v (.bool (dotsOk l))):=by
  refine FnW.of_AW TryzT_ok 0 (fn:=Tryz.f206) (by kernel_rfl) rfl (by kernel_rfl) rfl rfl rfl ?_; refine AW_of h206 TryzT_ok (by kernel_rfl) ?_
  simp -dsimp
  refine AWh_loop (fun i:Nat => i ≤ l.length ∧ ∀ j:Nat,j < i → dotOk (nth l j) = true ∧ (0 < j → before (nth l (j - 1)) (nth l j) = true)) (fun i => mkE [(0,.c (.im l.length (flat l))),(3,.c (.int .i64 i))] []) (fun i => l.length - i) 0 (Wk_to [0,3] [] rfl rfl (by simp)) (by simp) ?_
  rintro i ⟨hi,hall⟩
  refine AW_of h206 TryzT_ok (by kernel_rfl) ?_
  rcases Nat.lt_or_ge i l.length with h1 | h1
  · simp -dsimp [h1,ne_of_lt h1]
    refine ⟨by omega,?_⟩
    refine ACallK_of (f129_ok _) ?_
    cases hd:dotOk (nth l i) with
    | false =>
      simp -dsimp
      exact dotsOk_false h1 (by rw [hd]; simp)
    | true =>
      rcases Nat.eq_zero_or_pos i with h0 | h0
      · have hz:¬ 0 < i:=by omega
        simp -dsimp [hz]
        refine Back_of (i + 1) [0,3] [] rfl rfl (by simp; rw [wrap64 (by omega) (by omega)]) ⟨by omega,fun j hj => ?_⟩ (by omega)
        obtain rfl:j = i:=by omega
        exact ⟨hd,fun h => by omega⟩
      · have w:IntKind.i64.wrap ((i:Int) - 1) = i - 1:=wrap64 (by omega) (by omega)
        have t1:((i:Int) - 1).toNat = i - 1:=by omega
        have h3:i - 1 < l.length:=by omega
        simp -dsimp [h0,h1,h3,w,t1,ne_of_lt h1]
        refine ⟨⟨by omega,by omega⟩,by omega,by omega,?_⟩
        refine ACallK_of (f277_ok _ _) ?_
        simp -dsimp
        refine ⟨fun h => ?_,fun h => ?_⟩
        · exact dotsOk_false h1 (by rw [h]; simp; intro _; omega)
        · refine Back_of (i + 1) [0,3] [] rfl rfl (by simp; rw [wrap64 (by omega) (by omega)]) ⟨by omega,fun k hk => ?_⟩ (by omega)
          by_cases e:k = i
          · subst e
            exact ⟨hd,fun _ => h⟩
          · exact hall k (by omega)
  · simp -dsimp [Nat.not_lt.2 h1]
    have e:i = l.length:=by omega
    subst e
    have:decide (∀ i:Nat,i < l.length → dotOk (nth l i) = true ∧ (0 < i → before (nth l (i - 1)) (nth l i) = true)) = true:=by
      rw [decide_eq_true_eq]; exact hall
    simp only [dotsOk,this,Bool.and_true]
    rw [Bool.eq_iff_iff]
    simp
    omega
end Am
namespace Am
open Go Go.Proofs
open Cel (cells)
set_option maxRecDepth 100000
def cmpInt (a b:Int):Int:=if a < b then -1 else if b < a then 1 else 0
def orInt:List Int → Int
  | [] => 0
  | x :: xs => if x = 0 then orInt xs else x
@[simp] def h374:Hts:={  }
theorem f374_ok (x:Int):FnR Tryz.prog 374 [.v (.int .i64 x)] (.v (.bool false)):=by
  refine FnW.of_AW TryzT_ok 0 (fn:=Tryz.f374) (by kernel_rfl) rfl (by kernel_rfl) rfl rfl rfl ?_; refine AW_of h374 TryzT_ok (by kernel_rfl) ?_
  simp -dsimp
@[simp] def h290:Hts:={  }
theorem f290_ok (a b:Int):FnR Tryz.prog 290 [.v (.int .i64 a),.v (.int .i64 b)] (.v (.int .i64 (cmpInt a b))):=by
  refine FnW.of_AW TryzT_ok 0 (fn:=Tryz.f290) (by kernel_rfl) rfl (by kernel_rfl) rfl rfl rfl ?_; refine AW_of h290 TryzT_ok (by kernel_rfl) ?_
  simp -dsimp
  refine ACallK_of (f374_ok _) ?_
  simp -dsimp
  refine ACallK_of (f374_ok _) ?_
  simp -dsimp
  unfold cmpInt
  refine ⟨fun h => by rw [if_pos h],fun h => ⟨fun h' => ?_,fun h' => ?_⟩⟩
  · rw [if_neg (by omega),if_pos h']
  · rw [if_neg (by omega),if_neg (by omega)]
@[simp] def h141:Hts:={  }
theorem f141_ok (xs:List Int) (ha:xs.length ≤ 1073741824):FnR Tryz.prog 141 [.v (.im xs.length (flat xs))] (.v (.int .i64 (orInt xs))):=by
  refine FnW.of_AW TryzT_ok 0 (fn:=Tryz.f141) (by kernel_rfl) rfl (by kernel_rfl) rfl rfl rfl ?_; refine AW_of h141 TryzT_ok (by kernel_rfl) ?_
  simp -dsimp
  refine AWh_loop (fun i:Nat => i ≤ xs.length ∧ orInt (xs.drop i) = orInt xs) (fun i => mkE [(3,.c (.int .i64 0)),(6,.c (.im xs.length (flat xs))),(7,.c (.int .i64 xs.length)),(8,.c (.int .i64 i))] []) (fun i => xs.length - i) 0 (Wk_to [3,6,7,8] [] rfl rfl (by simp)) (by simp) ?_
  rintro i ⟨hi,hinv⟩
  refine AW_of h141 TryzT_ok (by kernel_rfl) ?_
  rcases Nat.lt_or_ge i xs.length with h1 | h1
  · simp -dsimp [h1,ne_of_lt h1]
    rw [List.drop_eq_getElem_cons h1,← nth_eq h1,orInt] at hinv
    refine ⟨fun h => by rw [← hinv,if_neg h],fun h => ?_⟩
    rw [if_pos h] at hinv
    exact Back_of (i + 1) [3,6,7,8] [] rfl rfl (by simp; rw [wrap64 (by omega) (by omega)]) ⟨by omega,hinv⟩ (by omega)
  · simp -dsimp [Nat.not_lt.2 h1]
    rw [← hinv,List.drop_of_length_le h1]
    rfl
def cmpDot (a b:GDot):Int:=orInt [cmpInt a.rep b.rep,cmpInt a.seq b.seq]
@[simp] def h266:Hts:={ dr:=fun id => if id = 1 then [{},{},{},{},{ cr:=true },{ mb:=[9] },{ mb:=[9] },{ mb:=[9] },{ mb:=[9] },{ cr:=true },{ cr:=true },{ cr:=true },{}] else [] }
theorem f266_ok (a b:GDot):FnR Tryz.prog 266 [.agg [.int .i64 a.rep,.int .i64 a.seq],.agg [.int .i64 b.rep,.int .i64 b.seq]] (.v (.int .i64 (cmpDot a b))):=by
  refine FnW.of_AW TryzT_ok 0 (fn:=Tryz.f266) (by kernel_rfl) rfl (by kernel_rfl) rfl rfl rfl ?_; refine AW_of h266 TryzT_ok (by kernel_rfl) ?_
  simp -dsimp
  refine ACallK_of (f290_ok _ _) ?_
  simp -dsimp
  refine ACallK_of (f290_ok _ _) ?_
  simp -dsimp
  refine ACallK_of (f141_ok [cmpInt a.rep b.rep,cmpInt a.seq b.seq] (by simp)) ?_
  simp -dsimp
  rfl
theorem cmpDot_before (a b:GDot):(0 ≤ cmpDot a b) ↔ before a b = false:=by
  unfold cmpDot orInt orInt orInt cmpInt before
  simp
  split <;> split <;> (try split) <;> omega
end Am
namespace Am
open Go Go.Proofs
open Cel (cells)
set_option maxRecDepth 100000
def allB (p:Nat → Bool):Nat → Bool
  | 0 => true
  | n + 1 => allB p n && p n
theorem allB_iff {p:Nat → Bool} {n:Nat}:allB p n = true ↔ ∀ i:Nat,i < n → p i = true:=by
  induction n with
  | zero => simp [allB]
  | succ n ih =>
    simp only [allB,Bool.and_eq_true,ih]
    constructor
    · rintro ⟨h,h'⟩ i hi
      by_cases e:i = n
      · subst e; exact h'
      · exact h i (by omega)
    · intro h; exact ⟨fun i hi => h i (by omega),h n (by omega)⟩
theorem allB_false {p:Nat → Bool} {n i:Nat} (h:i < n) (hp:p i = false):allB p n = false:=by
  cases hh:allB p n
  · rfl
  · rw [allB_iff.1 hh i h] at hp; cases hp
theorem allB_succ {p:Nat → Bool} {i:Nat} (h:allB p i = true) (hp:p i = true):allB p (i + 1) = true:=by
  simp [allB,h,hp]
def strLt (a b:ByteArray):Bool:=Op.bytesLess a.toList b.toList
theorem toList_inj {a b:ByteArray}:a.toList = b.toList ↔ a = b:=by
  rw [ByteArray.toList_eq,ByteArray.toList_eq]
  constructor
  · intro h
    cases a; cases b
    simp only at h
    simp [Array.toList_inj.1 h]
  · rintro rfl; rfl
theorem bl_asymm:∀ x y:List UInt8,Op.bytesLess x y = true → Op.bytesLess y x = false
  | [],[],h => by simp [Op.bytesLess] at h
  | [],_ :: _,_ => by simp [Op.bytesLess]
  | _ :: _,[],h => by simp [Op.bytesLess] at h
  | a :: x,b :: y,h => by
    have ih:=bl_asymm x y
    simp only [Op.bytesLess,Bool.or_eq_true,Bool.and_eq_true,decide_eq_true_eq,beq_iff_eq,Bool.or_eq_false_iff,Bool.and_eq_false_iff,decide_eq_false_iff_not,beq_eq_false_iff_ne] at *
    rcases h with h | ⟨rfl,h⟩
    · exact ⟨fun h' => UInt8.lt_asymm h h',.inl fun e => by subst e; exact UInt8.lt_irrefl _ h⟩
    · exact ⟨UInt8.lt_irrefl _,.inr (ih h)⟩
theorem bl_tri:∀ x y:List UInt8,Op.bytesLess x y = false → Op.bytesLess y x = false → x = y
  | [],[],_,_ => rfl
  | [],_ :: _,h,_ => by simp [Op.bytesLess] at h
  | _ :: _,[],_,h => by simp [Op.bytesLess] at h
  | a :: x,b :: y,h,h' => by
    have ih:=bl_tri x y
    simp only [Op.bytesLess,Bool.or_eq_false_iff,Bool.and_eq_false_iff,decide_eq_false_iff_not,beq_eq_false_iff_ne] at *
    have e:a = b:=UInt8.le_antisymm (UInt8.not_lt.1 h'.1) (UInt8.not_lt.1 h.1)
    subst e
    rw [ih (h.2.resolve_left (by simp)) (h'.2.resolve_left (by simp))]
theorem strLt_asymm {a b:ByteArray} (h:strLt a b = true):strLt b a = false:=by
  exact bl_asymm _ _ h
theorem strLt_tri {a b:ByteArray} (h:strLt a b = false) (h':strLt b a = false):a = b:=by
  exact toList_inj.1 (bl_tri _ _ h h')
theorem strLt_self (a:ByteArray):strLt a a = false:=by
  cases h:strLt a a
  · rfl
  · rw [strLt_asymm h] at h; cases h
def cmpStr (a b:ByteArray):Int:=if strLt a b = true then -1 else if strLt b a = true then 1 else 0
@[simp] def h274:Hts:={  }
theorem f274_ok (x:ByteArray):FnR Tryz.prog 274 [.v (.str x)] (.v (.bool false)):=by
  refine FnW.of_AW TryzT_ok 0 (fn:=Tryz.f274) (by kernel_rfl) rfl (by kernel_rfl) rfl rfl rfl ?_; refine AW_of h274 TryzT_ok (by kernel_rfl) ?_
  simp -dsimp
@[simp] def h142:Hts:={  }
theorem f142_ok (a b:ByteArray):FnR Tryz.prog 142 [.v (.str a),.v (.str b)] (.v (.int .i64 (cmpStr a b))):=by
  refine FnW.of_AW TryzT_ok 0 (fn:=Tryz.f142) (by kernel_rfl) rfl (by kernel_rfl) rfl rfl rfl ?_; refine AW_of h142 TryzT_ok (by kernel_rfl) ?_
  simp -dsimp
  refine ACallK_of (f274_ok _) ?_
  simp -dsimp
  refine ACallK_of (f274_ok _) ?_
  simp -dsimp
  show (strLt a b = true → -1 = cmpStr a b) ∧ (strLt a b = false → (strLt a b = false → ¬a = b → 1 = cmpStr a b) ∧ ((strLt a b = false → a = b) → 0 = cmpStr a b))
  refine ⟨fun h => by simp [cmpStr,h],fun h => ⟨fun _ e => ?_,fun h' => ?_⟩⟩
  · cases h':strLt b a
    · exact absurd (strLt_tri h h') e
    · simp [cmpStr,h,h']
  · obtain rfl:=h' h
    simp [cmpStr,strLt_self]
def cmpTally (a b:GTally):Int:=orInt [cmpStr a.obj b.obj,cmpInt a.rep b.rep]
@[simp] def h261:Hts:={ dr:=fun id => if id = 1 then [{},{},{},{},{ cr:=true },{ mb:=[9] },{ mb:=[9] },{ mb:=[9] },{ mb:=[9] },{ cr:=true },{ cr:=true },{ cr:=true },{}] else [] }
theorem f261_ok (a b:GTally):FnR Tryz.prog 261 [.agg [.str a.obj,.int .i64 a.rep,.int .i64 a.sum],.agg [.str b.obj,.int .i64 b.rep,.int .i64 b.sum]] (.v (.int .i64 (cmpTally a b))):=by
  refine FnW.of_AW TryzT_ok 0 (fn:=Tryz.f261) (by kernel_rfl) rfl (by kernel_rfl) rfl rfl rfl ?_; refine AW_of h261 TryzT_ok (by kernel_rfl) ?_
  simp -dsimp
  refine ACallK_of (f142_ok _ _) ?_
  simp -dsimp
  refine ACallK_of (f290_ok _ _) ?_
  simp -dsimp
  refine ACallK_of (f141_ok [cmpStr a.obj b.obj,cmpInt a.rep b.rep] (by simp)) ?_
  simp -dsimp
  rfl
def tallyOk (t:GTally):Bool:=nameOk t.obj && spIn t.rep 0 2 && spIn t.sum 0 999999
def tallyLt (a b:GTally):Bool:=strLt a.obj b.obj || decide (a.obj = b.obj) && decide (a.rep < b.rep)
def talAt (l:List GTally) (i:Nat):Bool:=tallyOk (nth l i) && (decide (i = 0) || tallyLt (nth l (i - 1)) (nth l i))
def talliesOk (l:List GTally):Bool:=decide (l.length ≤ 120) && allB (talAt l) l.length
theorem cmpTally_lt (a b:GTally):(0 ≤ cmpTally a b) ↔ tallyLt a b = false:=by
  unfold cmpTally tallyLt orInt orInt orInt cmpInt cmpStr
  cases h:strLt a.obj b.obj
  · cases h':strLt b.obj a.obj
    · have e:=strLt_tri h h'
      simp [e,strLt_self]
      split <;> (try split) <;> (try split) <;> omega
    · have e:a.obj ≠ b.obj:=fun e => by rw [e,strLt_self] at h'; cases h'
      simp [e]
  · simp
theorem talliesOk_false {l:List GTally} {i:Nat} (h1:i < l.length) (h:talAt l i = false):talliesOk l = false:=by
  simp only [talliesOk,allB_false h1 h,Bool.and_false]
theorem talliesOk_end {l:List GTally} (h:allB (talAt l) l.length = true):talliesOk l = decide (l.length ≤ 120):=by
  simp only [talliesOk,h,Bool.and_true]
end Am
namespace Am
open Go Go.Proofs
open Cel (cells)
set_option maxRecDepth 100000
@[simp] def h157:Hts:={  }
theorem f157_ok (xs:List Int) (h:xs.length ≤ 1073741824):FnR Tryz.prog 157 [.v (.im xs.length (flat xs))] (.v (.ow 3 1 xs.length (flat xs))):=by
  refine FnW.of_AW TryzT_ok 0 (fn:=Tryz.f157) (by kernel_rfl) rfl (by kernel_rfl) rfl rfl rfl ?_; refine AW_of h157 TryzT_ok (by kernel_rfl) ?_
  simp -dsimp
  simp [capMax]
  omega
end Am
