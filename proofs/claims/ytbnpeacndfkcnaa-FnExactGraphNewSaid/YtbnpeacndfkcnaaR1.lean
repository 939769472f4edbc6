/- The law FnExactGraphNew returns true, whatever it is handed, and leaves it as it is. No condition. -/
import Derived.Test.YtbnpeacndfkcnaaG1
import Derived.Test.YtbnpeacndfkcnaaI
import Derived.Test.YtbnpeacndfkcnaaRows
namespace Go.Proofs.Ytbnpeacndfkcnaa
open Am Go.RowKit
open Cel (cells)
theorem Try.own : ownKnob Try.prog.godebug = none := by kernel_rfl
theorem Try.laidOut : laidOutB Try.prog = true := by kernel_rfl

set_option maxRecDepth 100000 in
theorem fnExactGraphNew_lifted (os : Os) (started : os.Started) (H : Type) (enc : TypeId × Value → H) :
    ReturnsInHanded {} Try.checked os 4 .any (Rows.fnExactGraphNewSpec.pre6 enc Try.prog Try.f4 Rows.fnExactGraphNewRow.domain false) (Rows.fnExactGraphNewSpec.post enc Try.prog Try.f4 false true false false) := by
  refine lifted (C := Try.checked) (T := TryT) (tb := 4) TryT_ok Try.own Try.laidOut started (by kernel_rfl) Try.func4 rfl ?_ rfl (by kernel_rfl) (by kernel_rfl) (by kernel_rfl)
    (ChangeSpec.witness6 (enc := enc) (C := Try.checked) false ⟨#[], #[], []⟩ 8 (by kernel_rfl) (by kernel_rfl) (by kernel_rfl) (by kernel_rfl)) ?_
  · intro ds hd
    match ds, hd with
    | [], _ => rfl
  · intro cs hcs
    match cs, hcs with
    | [], hcs =>
      exact f4_ok 

theorem fnExactGraphNew_holds : Rows.FnExactGraphNewSaid :=
  OpenClaim.holds_of_wide 4 Try.f4 rfl rfl rfl rfl rfl rfl rfl ⟨rfl, rfl, rfl, rfl, rfl⟩ rfl rfl rfl rfl rfl (by kernel_rfl) Try.func4 (by kernel_rfl)
    (of_decide_eq_true (by kernel_rfl)) (by unfold Func.isWrapper; first | (rw [if_pos (by decide +kernel)]; kernel_rfl) | (rw [if_neg (by decide +kernel)]; exact ⟨rfl, rfl⟩))
    (fun os started H enc _ => fnExactGraphNew_lifted os started H enc)
end Go.Proofs.Ytbnpeacndfkcnaa
