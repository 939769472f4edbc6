/- What the laws compare what changed by. No condition. -/
import Derived.Test.YteidfkbfocdnmaaGreatT
import Derived.Test.YteidfkbfocdnmaaGreatD
import Derived.Test.YteidfkbfocdnmaaGreatE93a
import Derived.Test.YteidfkbfocdnmaaGreatE56
set_option linter.unusedSimpArgs false
set_option linter.unusedVariables false
set_option linter.unnecessarySimpa false
set_option linter.unusedSectionVars false
namespace Am
open Go Go.Proofs
open Cel (cells)
set_option maxRecDepth 100000
@[simp] def h58:Hts:={ merge:=fun _ => false,dr:=fun id => if id = 6 then [{},{},{},{},{},{},{},{},{}] else [] }
set_option maxHeartbeats 1000000 in
theorem f58_ok (l:List GDot) (hl:l.length ≤ 1073741824):FnR Tryz.prog 58 [.v (.im l.length (flat l)),.v (.im l.length (flat l))] (.v (.bool true)):=by
  refine FnW.of_AW TryzT_ok 0 (fn:=Tryz.f58) (by kernel_rfl) rfl (by kernel_rfl) rfl rfl rfl ?_; refine AW_of h58 TryzT_ok (by kernel_rfl) ?_
  simp -dsimp
  refine AWh_loop (fun i:Nat => i ≤ l.length) (fun i => mkE [(0,.c (.im l.length (flat l))),(1,.c (.im l.length (flat l))),(5,.c (.int .i64 i))] []) (fun i => l.length - i) 0 (Wk_to [0,1,5] [] rfl rfl (by simp)) (by simp) ?_
  rintro i hi
  refine AW_of h58 TryzT_ok (by kernel_rfl) ?_
  have wi:IntKind.i64.wrap ((i:Int) + 1) = i + 1:=wrap64 (by omega) (by omega)
  rcases Nat.lt_or_ge i l.length with h1 | h1
  · simp -dsimp [h1,ne_of_lt h1,wi]
    repeat (first|refine ⟨by omega,?_⟩|refine ⟨by simp [capMax];omega,?_⟩|refine ⟨⟨by omega,by omega⟩,?_⟩)
    exact Back_of (i + 1) [0,1,5] [] rfl rfl (by simp) (by omega) (by omega)
  · simp -dsimp [Nat.not_lt.2 h1,h1]
end Am
