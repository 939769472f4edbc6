/- The library's sort and compaction of strings,as contracts here. No condition. -/
import Derived.Test.YtjbbhccphedkfaaGreatAm32
import Derived.Sort.OwnSorted
import Derived.Lib.OwnBridge
set_option linter.unusedSimpArgs false
set_option linter.unusedVariables false
set_option linter.unnecessarySimpa false
set_option linter.unusedSectionVars false
namespace Am
open Go Go.Proofs Go.Sort
open Cel (cells)
def sortL (zs:List (List UInt8)):List (List UInt8):=zs.mergeSort fun x y => decide (x ≤ y)
def byts (xs:List ByteArray):List (List UInt8):=xs.map (·.data.toList)
def strs' (zs:List (List UInt8)):List ByteArray:=zs.map fun z => ⟨z.toArray⟩
def sortS (xs:List ByteArray):List ByteArray:=strs' (sortL (byts xs))
theorem GrownF_of {w w':World} {g:Nat} (h:w.grownBy w' (some g)) (hd:w.drawn ≤ w'.drawn):GrownF w w' [g] :=
  ⟨h.os,⟨h.tape,hd⟩,h.output,h.size,fun k hk hn => h.block k hk (fun e => hn (by cases e; simp))⟩
end Am
