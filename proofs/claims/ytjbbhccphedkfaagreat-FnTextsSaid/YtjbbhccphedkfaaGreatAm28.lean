/- Lists of strings. No condition. -/
import Derived.Test.YtjbbhccphedkfaaGreatAm27
set_option linter.unusedSimpArgs false
set_option linter.unusedVariables false
set_option linter.unnecessarySimpa false
set_option linter.unusedSectionVars false
namespace Am
open Go
open Cel (cells)
instance:Cel ByteArray:=⟨1,fun s => [.str s],fun _ => rfl,⟨#[]⟩⟩
@[simp high] theorem strs_get {xs:List ByteArray} {i:Nat} (h:i < xs.length):(flat xs)[i]? = some (.str (nth xs i)):=by
  have:=flat_get (xs:=xs) (i:=i) (j:=0) h (by decide)
  simpa [Cel.k,cells] using this
@[simp] theorem strs_length (xs:List ByteArray):(flat xs).length = xs.length:=by
  have:=flat_length xs
  simpa [Cel.k] using this
@[simp] theorem strs_nil {xs:List ByteArray}:flat xs = [] ↔ xs = []:=by
  constructor
  · intro h
    have:=strs_length xs
    rw [h] at this
    exact List.length_eq_zero_iff.1 this.symm
  · rintro rfl; rfl
theorem strs_set {xs:List ByteArray} {i:Nat} (h:i < xs.length) (y:ByteArray):splice (flat xs) i [.str y] = flat (xs.set i y):=by
  have:=flat_set h y
  simpa [Cel.k,cells] using this
@[simp high] theorem strs_upd {xs:List ByteArray} {i:Nat} (h:i < xs.length) (y:ByteArray):splice (flat xs) i [.str y] = flat (xs.set i y):=strs_set h y
@[simp] theorem strs_nn:flat ([]:List ByteArray) = []:=rfl
@[simp high] theorem strs_add (xs:List ByteArray) (y:ByteArray):flat xs ++ [.str y] = flat (xs ++ [y]):=(flat_append xs [y]).symm
@[simp] theorem strs_noim (xs:List ByteArray):noIms (flat xs):=flat_noIm (fun _ => by simp [cells,noIms,noIm]) xs
@[simp high] theorem strs_put {xs:List ByteArray} {i:Nat} (h:i < xs.length) (y:ByteArray):List.take i (flat xs) ++ PV.str y :: List.drop (i + 1) (flat xs) = flat (xs.set i y):=by
  rw [← strs_set h y]
  simp [splice]
@[simp] theorem strs_rep' (n:Nat):List.replicate n (PV.str ⟨#[]⟩) = flat (List.replicate n (⟨#[]⟩:ByteArray)):=by
  induction n with
  | zero => rfl
  | succ n ih => rw [List.replicate_succ,List.replicate_succ,flat_cons,ih]; rfl
@[simp] theorem strs_free (xs:List ByteArray):(flat xs).all isFree = true:=flat_free (fun _ => rfl) xs
@[simp] theorem strs_frz (xs:List ByteArray):frzs (flat xs) = flat xs:=flat_frz (fun _ => rfl) xs
end Am
