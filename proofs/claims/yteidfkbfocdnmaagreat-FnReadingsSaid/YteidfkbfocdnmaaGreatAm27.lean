/- What is nil may be held as an own array of none. No condition. -/
import Derived.Test.YteidfkbfocdnmaaGreatAm26
namespace Am
open Go
set_option linter.unusedSimpArgs false
set_option linter.unusedVariables false

inductive Ad where
  | slot (i k e s : Nat)
  | cell (o j k e s : Nat)

def adT (i k : Nat) : List (Nat × AV) → List (Nat × AV)
  | [] => []
  | (j, v) :: r => if i = j then (j, .arr k) :: r else (j, v) :: adT i k r

def setB (j k : Nat) : AObj → AObj
  | .box cs => .box (cs.set j (.arr k))
  | x => x

def adB (o j k : Nat) : List (Nat × AObj) → List (Nat × AObj)
  | [] => []
  | (x, ob) :: r => if o = x then (x, setB j k ob) :: r else (x, ob) :: adB o j k r

def isNil : AV → Bool
  | .nil => true
  | _ => false
def isNone : AObj → Bool
  | .none => true
  | _ => false
def nilAt (j : Nat) : AObj → Bool
  | .box cs => match cs[j]? with | some .nil => true | _ => false
  | _ => false

def adsRun : List Ad → List (Nat × AV) → List (Nat × AObj) → Option AEnv
  | [], ts, os => some (mkE ts os)
  | .slot i k e s :: r, ts, os => if isNil (look i ts) && isNone (lookO k os) then adsRun r (adT i k ts) ((k, .arr 0 e s 0 []) :: os) else none
  | .cell o j k e s :: r, ts, os => if nilAt j (lookO o os) && isNone (lookO k os) && decide (o ≠ k) then adsRun r ts ((k, .arr 0 e s 0 []) :: adB o j k os) else none

section
variable {C : Ctx} {σ : AEnv} {a : Act} {w : World} {ι : Nat → Value} {Fs : Nat → List Nat}

/-- An own array of none, from nothing. -/
theorem Sim.nil (h : Sim C σ a w ι Fs) {k : Nat} (hk : σ.o k = .none) (e s : Nat) : ∃ ι' Fs', Sim C (σ.upd k (.arr 0 e s 0 [])) a w ι' Fs' ∧ ι' k = .slice none 0 0 ∧ (∀ x, x ≠ k → ι' x = ι x) ∧ (∀ y, Un C w Fs y → Un C w Fs' y) := by
  refine ⟨_, _, h.make hk (gone := []) (ob := .arr 0 e s 0 []) (v := .slice none 0 0) (F := []) (by simp) rfl (Tp.refl _) rfl (Nat.le_refl _) (fun _ _ _ => rfl) (by simp) (by simp) ?_, fupd_same _ _ _, fun x hx => fupd_ne _ hx _, fun y hy => ⟨hy.1, hy.2.1, fun o => ?_⟩⟩
  · simp only [ObR]
    exact ⟨[], [], World.ownsRow_nil w 0 _ _, by simp [Rs], by simp [Value.ownBlock]⟩
  · by_cases e : o = k
    · subst e; rw [fupd_same]; simp
    · rw [fupd_ne _ e]; simpa using hy.2.2 o

end
attribute [simp] adsRun adT adB setB isNil isNone nilAt
end Am
