/- Lists of bytes. No condition. -/
import Derived.Test.YtjbbhccphedkfaaGreatAm31
set_option linter.unusedSimpArgs false
set_option linter.unusedVariables false
set_option linter.unnecessarySimpa false
set_option linter.unusedSectionVars false
namespace Am
open Go
open Cel (cells)
instance:Cel UInt8:=⟨1,fun b => [.int .u8 b.toNat],fun _ => rfl,0⟩
def u8 (v:Int):UInt8:=UInt8.ofNat (v % 256).toNat
theorem u8_wrap (v:Int):IntKind.u8.wrap v = ((u8 v).toNat:Int):=by
  have h1:IntKind.u8.wrap v = v % 256:=by
    show v.emod 256 = _
    rfl
  rw [h1,u8]
  have h2:=Int.emod_nonneg v (show (256:Int) ≠ 0 by decide)
  have h3:=Int.emod_lt_of_pos v (show (0:Int) < 256 by decide)
  rw [UInt8.toNat_ofNat']
  omega
@[simp high] theorem bytes_get {xs:List UInt8} {i:Nat} (h:i < xs.length):(flat xs)[i]? = some (.int .u8 (nth xs i).toNat):=by
  have:=flat_get (xs:=xs) (i:=i) (j:=0) h (by decide)
  simpa [Cel.k,cells] using this
@[simp] theorem bytes_length (xs:List UInt8):(flat xs).length = xs.length:=by
  have:=flat_length xs
  simpa [Cel.k] using this
@[simp] theorem bytes_nil {xs:List UInt8}:flat xs = [] ↔ xs = []:=by
  constructor
  · intro h
    have:=bytes_length xs
    rw [h] at this
    exact List.length_eq_zero_iff.1 this.symm
  · rintro rfl; rfl
@[simp] theorem bytes_nn:flat ([]:List UInt8) = []:=rfl
@[simp high] theorem bytes_add (xs:List UInt8) (v:Int):flat xs ++ [.int .u8 (IntKind.u8.wrap v)] = flat (xs ++ [u8 v]):=by
  rw [u8_wrap]; exact (flat_append xs [u8 v]).symm
@[simp high] theorem bytes_put {xs:List UInt8} {i:Nat} (h:i < xs.length) (v:Int):List.take i (flat xs) ++ PV.int .u8 (IntKind.u8.wrap v) :: List.drop (i + 1) (flat xs) = flat (xs.set i (u8 v)):=by
  rw [u8_wrap]
  have:=flat_set h (u8 v)
  rw [← this]
  simp [splice,cells,Cel.k]
@[simp] theorem bytes_rep (n:Nat):List.replicate n (PV.int .u8 0) = flat (List.replicate n (0:UInt8)):=by
  induction n with
  | zero => rfl
  | succ n ih => rw [List.replicate_succ,List.replicate_succ,flat_cons,ih]; rfl
@[simp] theorem bytes_noim (xs:List UInt8):noIms (flat xs):=flat_noIm (fun _ => by simp [cells,noIms,noIm]) xs
@[simp] theorem bytes_free (xs:List UInt8):(flat xs).all isFree = true:=flat_free (fun _ => rfl) xs
@[simp] theorem bytes_frz (xs:List UInt8):frzs (flat xs) = flat xs:=flat_frz (fun _ => rfl) xs
@[simp] theorem bytes_all (xs:List UInt8):allBytes (flat xs):=by
  induction xs with
  | nil => exact trivial
  | cons x xs ih =>
    rw [flat_cons]
    exact ⟨⟨by have:=x.toNat_lt; omega,by have:=x.toNat_lt; omega⟩,ih⟩
@[simp] theorem bytes_of (xs:List UInt8):bytesOf (flat xs) = xs:=by
  induction xs with
  | nil => rfl
  | cons x xs ih =>
    rw [flat_cons]
    show UInt8.ofNat ((x.toNat:Int).toNat) :: bytesOf (flat xs) = _
    rw [ih]
    simp
def str (xs:List UInt8):ByteArray:=⟨xs.toArray⟩
@[simp] theorem str_size (xs:List UInt8):(str xs).size = xs.length:=by
  simp [str,ByteArray.size]
end Am
