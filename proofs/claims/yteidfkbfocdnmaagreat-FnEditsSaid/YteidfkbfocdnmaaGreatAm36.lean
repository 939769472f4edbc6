/- The library's sort of integers, as a contract here. No condition. -/
import Derived.Test.YteidfkbfocdnmaaGreatAm33
import Derived.Sort.OwnSortedInts
namespace Am
open Go Go.Proofs Go.Sort
set_option linter.unusedSimpArgs false
set_option linter.unusedVariables false
open Cel (cells)

def sortI (zs : List Int) : List Int := zs.mergeSort fun x y => decide (x ≤ y)
theorem sortI_len (zs : List Int) : (sortI zs).length = zs.length := List.length_mergeSort zs
end Am
