/- What reads: numbers, one after the other. No condition. -/
import Derived.Test.YtkndgnnfgdfcbaaGreatT
import Derived.Test.YtkndgnnfgdfcbaaGreatD
import Derived.Test.YtkndgnnfgdfcbaaGreatE31
import Derived.Test.YtkndgnnfgdfcbaaGreatAm31
namespace Am
open Go Go.Proofs
open Cel (cells)
set_option maxRecDepth 100000
set_option linter.unusedSimpArgs false
set_option linter.unusedVariables false

structure GScan where
  t : ByteArray
  pos : Int
  bad : Bool
def numM (s : GScan) : Int × GScan := if s.bad = true then (0, s) else match rd s.t s.pos with
  | none => (0, ⟨s.t, s.pos, true⟩)
  | some x => (x.1, ⟨s.t, x.2, false⟩)

@[simp] def h177 : Hts := { merge := fun _ => false, dr := fun id => if id = 3 then [{}, {}, {}, {}, {}, {}, {}, {}, { cr := true }, {}, {}, {}, {}, {}, {}, {}] else [] }
theorem f177_ok (s : GScan) (ht : s.t.size ≤ 1073741824) : FnW Tryz.prog 177 [.ptr [.str (s).t, .int .i64 (s).pos, .bool (s).bad]] (.v (.int .i64 ((numM s).1))) [.ptr [.str ((numM s).2).t, .int .i64 ((numM s).2).pos, .bool ((numM s).2).bad]] := by
  obtain ⟨t, p, b⟩ := s
  refine FnW.of_AW TryzT_ok 1 (fn := Tryz.f177) (by kernel_rfl) rfl (by kernel_rfl) rfl rfl rfl ?_
  refine AW_of h177 TryzT_ok (by kernel_rfl) ?_
  cases b
  · simp -dsimp
    refine ACallK_of (f129_ok _ _ ht) ?_
    cases g : rd t p with
    | none =>
      simp -dsimp [rdV, rdN]
      simp [numM, g]
    | some x =>
      simp -dsimp [rdV, rdN]
      simp [numM, g]
  · simp -dsimp
    simp [numM]

@[simp] def h138 : Hts := { merge := fun _ => false, dr := fun id => if id = 1 then [{}, {}, {}, {}, {}, {}, {}, {}, { cr := true }, {}, {}, {}, {}, {}, {}, {}] else [] }
theorem f138_ok (s : GScan) (ht : s.t.size ≤ 1073741824) : FnW Tryz.prog 138 [.ptr [.str (s).t, .int .i64 (s).pos, .bool (s).bad]] (.v (.int .i64 ((numM s).1))) [.ptr [.str ((numM s).2).t, .int .i64 ((numM s).2).pos, .bool ((numM s).2).bad]] := by
  obtain ⟨t, p, b⟩ := s
  refine FnW.of_AW TryzT_ok 1 (fn := Tryz.f138) (by kernel_rfl) rfl (by kernel_rfl) rfl rfl rfl ?_
  refine AW_of h138 TryzT_ok (by kernel_rfl) ?_
  cases b
  · simp -dsimp
    refine ACallK_of (f141_ok _ _ ht) ?_
    cases g : rd t p with
    | none =>
      simp -dsimp [rdV, rdN]
      simp [numM, g]
    | some x =>
      simp -dsimp [rdV, rdN]
      simp [numM, g]
  · simp -dsimp
    refine ACallK_of (f141_ok _ _ ht) ?_
    simp -dsimp
    simp [numM]
end Am
