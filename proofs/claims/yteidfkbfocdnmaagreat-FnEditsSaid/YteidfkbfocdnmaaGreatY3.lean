/- The library's sort of integers, over this program. No condition. -/
import Derived.Test.YteidfkbfocdnmaaGreatProg
import Derived.KernelRfl
import Derived.Shelf.Slices.In.SortNone
import Derived.Shelf.Slices.In.SortAlone
import Derived.Test.YteidfkbfocdnmaaGreatT
import Derived.Test.YteidfkbfocdnmaaGreatAm36
namespace Am
open Go Go.Proofs Go.Sort
set_option maxRecDepth 100000
end Am
