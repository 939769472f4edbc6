/- Counters, lives and cells in their order. No condition. -/
import Derived.Test.YtpgnllakcjajjaaGreatT
import Derived.Test.YtpgnllakcjajjaaGreatD
import Derived.Test.YtpgnllakcjajjaaGreatE4
import Derived.Test.YtpgnllakcjajjaaGreatAm29
namespace Am
open Go Go.Proofs
open Cel (cells)
set_option maxRecDepth 100000
set_option linter.unusedSimpArgs false
set_option linter.unusedVariables false

/-- all of the first n -/
def allB (p : Nat → Bool) : Nat → Bool
  | 0 => true
  | n + 1 => allB p n && p n
theorem allB_iff {p : Nat → Bool} {n : Nat} : allB p n = true ↔ ∀ i : Nat, i < n → p i = true := by
  induction n with
  | zero => simp [allB]
  | succ n ih =>
    simp only [allB, Bool.and_eq_true, ih]
    constructor
    · rintro ⟨h, h'⟩ i hi
      by_cases e : i = n
      · subst e; exact h'
      · exact h i (by omega)
    · intro h; exact ⟨fun i hi => h i (by omega), h n (by omega)⟩
theorem allB_false {p : Nat → Bool} {n i : Nat} (h : i < n) (hp : p i = false) : allB p n = false := by
  cases hh : allB p n
  · rfl
  · rw [allB_iff.1 hh i h] at hp; cases hp
theorem allB_succ {p : Nat → Bool} {i : Nat} (h : allB p i = true) (hp : p i = true) : allB p (i + 1) = true := by
  simp [allB, h, hp]

def strLt (a b : ByteArray) : Bool := Op.bytesLess a.toList b.toList
theorem toList_inj {a b : ByteArray} : a.toList = b.toList ↔ a = b := by
  rw [ByteArray.toList_eq, ByteArray.toList_eq]
  constructor
  · intro h
    cases a; cases b
    simp only at h
    simp [Array.toList_inj.1 h]
  · rintro rfl; rfl
theorem bl_asymm : ∀ x y : List UInt8, Op.bytesLess x y = true → Op.bytesLess y x = false
  | [], [], h => by simp [Op.bytesLess] at h
  | [], _ :: _, _ => by simp [Op.bytesLess]
  | _ :: _, [], h => by simp [Op.bytesLess] at h
  | a :: x, b :: y, h => by
    have ih := bl_asymm x y
    simp only [Op.bytesLess, Bool.or_eq_true, Bool.and_eq_true, decide_eq_true_eq, beq_iff_eq, Bool.or_eq_false_iff, Bool.and_eq_false_iff, decide_eq_false_iff_not, beq_eq_false_iff_ne] at *
    rcases h with h | ⟨rfl, h⟩
    · exact ⟨fun h' => UInt8.lt_asymm h h', .inl fun e => by subst e; exact UInt8.lt_irrefl _ h⟩
    · exact ⟨UInt8.lt_irrefl _, .inr (ih h)⟩
theorem bl_tri : ∀ x y : List UInt8, Op.bytesLess x y = false → Op.bytesLess y x = false → x = y
  | [], [], _, _ => rfl
  | [], _ :: _, h, _ => by simp [Op.bytesLess] at h
  | _ :: _, [], _, h => by simp [Op.bytesLess] at h
  | a :: x, b :: y, h, h' => by
    have ih := bl_tri x y
    simp only [Op.bytesLess, Bool.or_eq_false_iff, Bool.and_eq_false_iff, decide_eq_false_iff_not, beq_eq_false_iff_ne] at *
    have e : a = b := UInt8.le_antisymm (UInt8.not_lt.1 h'.1) (UInt8.not_lt.1 h.1)
    subst e
    rw [ih (h.2.resolve_left (by simp)) (h'.2.resolve_left (by simp))]
theorem strLt_asymm {a b : ByteArray} (h : strLt a b = true) : strLt b a = false := by
  exact bl_asymm _ _ h
theorem strLt_tri {a b : ByteArray} (h : strLt a b = false) (h' : strLt b a = false) : a = b := by
  exact toList_inj.1 (bl_tri _ _ h h')
theorem strLt_self (a : ByteArray) : strLt a a = false := by
  cases h : strLt a a
  · rfl
  · rw [strLt_asymm h] at h; cases h
theorem str_gt (a b : ByteArray) : (!(Op.bytesLess a.toList b.toList || a.toList == b.toList)) = strLt b a := by
  rw [← strLt]
  by_cases e : a = b
  · subst e; simp [strLt_self]
  · have : (a.toList == b.toList) = false := by rw [beq_eq_false_iff_ne, Ne, toList_inj]; exact e
    rw [this, Bool.or_false]
    cases h : strLt a b
    · cases h' : strLt b a
      · exact absurd (strLt_tri h h') e
      · rfl
    · rw [strLt_asymm h]; rfl
def cmpStr (a b : ByteArray) : Int := if strLt a b = true then -1 else if strLt b a = true then 1 else 0

@[simp] def h156 : Hts := {  }
theorem f156_ok (x : ByteArray) : FnR Tryz.prog 156 [.v (.str x)] (.v (.bool false)) := by
  refine FnW.of_AW TryzT_ok 0 (fn := Tryz.f156) (by kernel_rfl) rfl (by kernel_rfl) rfl rfl rfl ?_
  refine AW_of h156 TryzT_ok (by kernel_rfl) ?_
  simp -dsimp

@[simp] def h88 : Hts := {  }
theorem f88_ok (a b : ByteArray) : FnR Tryz.prog 88 [.v (.str a), .v (.str b)] (.v (.int .i64 (cmpStr a b))) := by
  refine FnW.of_AW TryzT_ok 0 (fn := Tryz.f88) (by kernel_rfl) rfl (by kernel_rfl) rfl rfl rfl ?_
  refine AW_of h88 TryzT_ok (by kernel_rfl) ?_
  simp -dsimp
  refine ACallK_of (f156_ok _) ?_
  simp -dsimp
  refine ACallK_of (f156_ok _) ?_
  simp -dsimp
  show (strLt a b = true → -1 = cmpStr a b) ∧ (strLt a b = false → (strLt a b = false → ¬a = b → 1 = cmpStr a b) ∧ ((strLt a b = false → a = b) → 0 = cmpStr a b))
  refine ⟨fun h => by simp [cmpStr, h], fun h => ⟨fun _ e => ?_, fun h' => ?_⟩⟩
  · cases h' : strLt b a
    · exact absurd (strLt_tri h h') e
    · simp [cmpStr, h, h']
  · obtain rfl := h' h
    simp [cmpStr, strLt_self]

def cmpTally (a b : GTally) : Int := orInt [cmpStr a.obj b.obj, cmpInt a.rep b.rep]
@[simp] def h136 : Hts := { dr := fun id => if id = 1 then [{}, {}, {}, {}, { cr := true }, { mb := [9] }, { mb := [9] }, { mb := [9] }, { mb := [9] }, { cr := true }, { cr := true }, { cr := true }, {}] else [] }
theorem f136_ok (a b : GTally) : FnR Tryz.prog 136 [.agg [.str a.obj, .int .i64 a.rep, .int .i64 a.sum], .agg [.str b.obj, .int .i64 b.rep, .int .i64 b.sum]] (.v (.int .i64 (cmpTally a b))) := by
  refine FnW.of_AW TryzT_ok 0 (fn := Tryz.f136) (by kernel_rfl) rfl (by kernel_rfl) rfl rfl rfl ?_
  refine AW_of h136 TryzT_ok (by kernel_rfl) ?_
  simp -dsimp
  refine ACallK_of (f88_ok _ _) ?_
  simp -dsimp
  refine ACallK_of (f173_ok _ _) ?_
  simp -dsimp
  refine ACallK_of (f87_ok [cmpStr a.obj b.obj, cmpInt a.rep b.rep] (by simp)) ?_
  simp -dsimp
  rfl

def tallyOk (t : GTally) : Bool := nameOk t.obj && spIn t.rep 0 2 && spIn t.sum 0 999999
def tallyLt (a b : GTally) : Bool := strLt a.obj b.obj || decide (a.obj = b.obj) && decide (a.rep < b.rep)
def talAt (l : List GTally) (i : Nat) : Bool := tallyOk (nth l i) && (decide (i = 0) || tallyLt (nth l (i - 1)) (nth l i))
def talliesOk (l : List GTally) : Bool := decide (l.length ≤ 120) && allB (talAt l) l.length
theorem cmpTally_lt (a b : GTally) : (0 ≤ cmpTally a b) ↔ tallyLt a b = false := by
  unfold cmpTally tallyLt orInt orInt orInt cmpInt cmpStr
  cases h : strLt a.obj b.obj
  · cases h' : strLt b.obj a.obj
    · have e := strLt_tri h h'
      simp [e, strLt_self]
      split <;> (try split) <;> (try split) <;> omega
    · have e : a.obj ≠ b.obj := fun e => by rw [e, strLt_self] at h'; cases h'
      simp [e]
  · simp
theorem talliesOk_false {l : List GTally} {i : Nat} (h1 : i < l.length) (h : talAt l i = false) : talliesOk l = false := by
  simp only [talliesOk, allB_false h1 h, Bool.and_false]
theorem talliesOk_end {l : List GTally} (h : allB (talAt l) l.length = true) : talliesOk l = decide (l.length ≤ 120) := by
  simp only [talliesOk, h, Bool.and_true]

end Am
