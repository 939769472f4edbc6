/- Lists of truths. No condition. -/
import Derived.Test.YtjbbhccphedkfaaGreatAm34
set_option linter.unusedSimpArgs false
set_option linter.unusedVariables false
set_option linter.unnecessarySimpa false
set_option linter.unusedSectionVars false
namespace Am
open Go
open Cel (cells)
instance:Cel Bool:=⟨1,fun s => [.bool s],fun _ => rfl,false⟩
@[simp high] theorem bools_get {xs:List Bool} {i:Nat} (h:i < xs.length):(flat xs)[i]? = some (.bool (nth xs i)):=by
  have:=flat_get (xs:=xs) (i:=i) (j:=0) h (by decide)
  simpa [Cel.k,cells] using this
@[simp] theorem bools_length (xs:List Bool):(flat xs).length = xs.length:=by
  have:=flat_length xs
  simpa [Cel.k] using this
@[simp] theorem bools_nil {xs:List Bool}:flat xs = [] ↔ xs = []:=by
  constructor
  · intro h
    have:=bools_length xs
    rw [h] at this
    exact List.length_eq_zero_iff.1 this.symm
  · rintro rfl; rfl
theorem bools_set {xs:List Bool} {i:Nat} (h:i < xs.length) (y:Bool):splice (flat xs) i [.bool y] = flat (xs.set i y):=by
  have:=flat_set h y
  simpa [Cel.k,cells] using this
@[simp high] theorem bools_upd {xs:List Bool} {i:Nat} (h:i < xs.length) (y:Bool):splice (flat xs) i [.bool y] = flat (xs.set i y):=bools_set h y
@[simp] theorem bools_nn:flat ([]:List Bool) = []:=rfl
@[simp high] theorem bools_add (xs:List Bool) (y:Bool):flat xs ++ [.bool y] = flat (xs ++ [y]):=(flat_append xs [y]).symm
@[simp] theorem bools_noim (xs:List Bool):noIms (flat xs):=flat_noIm (fun _ => by simp [cells,noIms,noIm]) xs
@[simp high] theorem bools_put {xs:List Bool} {i:Nat} (h:i < xs.length) (y:Bool):List.take i (flat xs) ++ PV.bool y :: List.drop (i + 1) (flat xs) = flat (xs.set i y):=by
  rw [← bools_set h y]
  simp [splice]
@[simp] theorem bools_rep' (n:Nat):List.replicate n (PV.bool false) = flat (List.replicate n (false:Bool)):=by
  induction n with
  | zero => rfl
  | succ n ih => rw [List.replicate_succ,List.replicate_succ,flat_cons,ih]; rfl
@[simp] theorem bools_free (xs:List Bool):(flat xs).all isFree = true:=flat_free (fun _ => rfl) xs
@[simp] theorem bools_frz (xs:List Bool):frzs (flat xs) = flat xs:=flat_frz (fun _ => rfl) xs
end Am
