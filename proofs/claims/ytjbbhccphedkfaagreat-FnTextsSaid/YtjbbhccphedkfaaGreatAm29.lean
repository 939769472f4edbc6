/- Plain lists: where the first is that is so. No condition. -/
import Derived.Test.YtjbbhccphedkfaaGreatAm28
set_option linter.unusedSimpArgs false
set_option linter.unusedVariables false
set_option linter.unnecessarySimpa false
set_option linter.unusedSectionVars false
namespace Am
open Go
def idx {α:Type} (p:α → Bool):List α → Int
  | [] => -1
  | x :: r => if p x then 0 else if idx p r < 0 then -1 else idx p r + 1
section
variable {α:Type} [Cel α] {p:α → Bool}
theorem nth_cons_zero (x:α) (r:List α):nth (x :: r) 0 = x:=by rw [nth_eq (by simp)]; rfl
theorem nth_cons_succ (x:α) (r:List α) (i:Nat):nth (x :: r) (i + 1) = nth r i:=by simp [nth]
theorem idx_here:∀ {xs:List α} {i:Nat},i < xs.length → (∀ j:Nat,j < i → p (nth xs j) = false) → p (nth xs i) = true → idx p xs = i
  | [],i,h,_,_ => by simp at h
  | x :: r,0,_,_,hp => by rw [nth_cons_zero] at hp; simp [idx,hp]
  | x :: r,i + 1,h,ha,hp => by
    have h0:=ha 0 (by omega)
    rw [nth_cons_zero] at h0
    rw [nth_cons_succ] at hp
    have:=idx_here (xs:=r) (i:=i) (by simpa using h) (fun j hj => by have:=ha (j + 1) (by omega); rwa [nth_cons_succ] at this) hp
    simp only [idx,h0,this]
    simp
    omega
theorem idx_none:∀ {xs:List α},(∀ j:Nat,j < xs.length → p (nth xs j) = false) → idx p xs = -1
  | [],_ => rfl
  | x :: r,ha => by
    have h0:=ha 0 (by simp)
    rw [nth_cons_zero] at h0
    have:=idx_none (xs:=r) (fun j hj => by have:=ha (j + 1) (by simpa using hj); rwa [nth_cons_succ] at this)
    simp [idx,h0,this]
end
theorem idx_range {α:Type} (p:α → Bool):∀ xs:List α,-1 ≤ idx p xs ∧ idx p xs < xs.length
  | [] => by simp [idx]
  | x :: r => by
    have:=idx_range p r
    simp only [idx,List.length_cons]
    split
    · omega
    · split <;> omega
end Am
