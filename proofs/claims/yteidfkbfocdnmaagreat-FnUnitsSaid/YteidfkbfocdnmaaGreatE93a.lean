/- What is new: of both. No condition. -/
import Derived.Test.YteidfkbfocdnmaaGreatT
import Derived.Test.YteidfkbfocdnmaaGreatD
import Derived.Test.YteidfkbfocdnmaaGreatE56
import Derived.Test.YteidfkbfocdnmaaGreatAm31
import Derived.Test.YteidfkbfocdnmaaGreatE2
import Derived.Test.YteidfkbfocdnmaaGreatAm32
import Derived.Test.YteidfkbfocdnmaaGreatAm29
set_option linter.unusedSimpArgs false
set_option linter.unusedVariables false
set_option linter.unnecessarySimpa false
set_option linter.unusedSectionVars false
namespace Am
open Go Go.Proofs
open Cel (cells)
set_option maxRecDepth 100000
def stateNew:GState:=⟨[0,0,0],[],[],[]⟩
@[simp] def h255:Hts:={  }
theorem f255_ok:FnR Tryz.prog 255 [] (.v (.ow 3 1 (([0,0,0]:List Int)).length (flat (([0,0,0]:List Int))))):=by
  refine FnW.of_AW TryzT_ok 0 (fn:=Tryz.f255) (by kernel_rfl) rfl (by kernel_rfl) rfl rfl rfl ?_; refine AW_of h255 TryzT_ok (by kernel_rfl) ?_
  simp -dsimp
  exact ⟨by decide,rfl⟩
@[simp] def h118:Hts:={  }
theorem f118_ok:FnR Tryz.prog 118 [] (.agg [.ow 3 1 stateNew.know.length (flat stateNew.know),.ow 179 3 stateNew.tallies.length (flat stateNew.tallies),.ow 159 6 stateNew.lives.length (flat stateNew.lives),.ow 72 8 stateNew.cs.length (flat stateNew.cs)]):=by
  rw [stateNew]
  refine FnW.of_AW TryzT_ok 0 (fn:=Tryz.f118) (by kernel_rfl) rfl (by kernel_rfl) rfl rfl rfl ?_; refine AW_of h118 TryzT_ok (by kernel_rfl) ?_
  simp -dsimp
  refine ACallK_of (f255_ok) ?_
  simp -dsimp
end Am
namespace Am
open Go Go.Proofs
open Cel (cells)
set_option maxRecDepth 100000
end Am
namespace Am
open Go Go.Proofs
open Cel (cells)
set_option maxRecDepth 100000
@[simp] def h12:Hts:={  }
theorem f12_ok (b:List UInt8):FnR Tryz.prog 12 [.v (.im b.length (flat b))] (.v (.bool (decide (1048576 < b.length)))):=by
  refine FnW.of_AW TryzT_ok 0 (fn:=Tryz.f12) (by kernel_rfl) rfl (by kernel_rfl) rfl rfl rfl ?_; refine AW_of h12 TryzT_ok (by kernel_rfl) ?_
  simp -dsimp
  omega
end Am
