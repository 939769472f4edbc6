/- Literal guards: looked at before what stands under them; strings compared. No condition. -/
import Derived.Test.YtjbbhccphedkfaaGreatAm30
set_option linter.unusedSimpArgs false
set_option linter.unusedVariables false
set_option linter.unnecessarySimpa false
set_option linter.unusedSectionVars false
namespace Am
@[simp ↓] theorem Sp_true' (A B:Unit → Prop):Sp true A B = A ():=by simp [Sp]
@[simp ↓] theorem Sp_false' (A B:Unit → Prop):Sp false A B = B ():=by simp [Sp]
@[simp] theorem str_beq (a b:ByteArray):(a.toList == b.toList) = decide (a = b):=by
  rw [Bool.eq_iff_iff]; simp
@[simp] theorem str_bne (a b:ByteArray):(a.toList != b.toList) = !decide (a = b):=by
  rw [bne,str_beq]
attribute [simp] mapEff bytEff
end Am
