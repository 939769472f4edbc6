/- What reads: numbers, one after the other. No condition. -/
import Derived.Test.YtkndgnnfgdfcbaaT
import Derived.Test.YtkndgnnfgdfcbaaD
import Derived.Test.YtkndgnnfgdfcbaaE31
import Derived.Test.YtkndgnnfgdfcbaaAm31
namespace Am
open Go Go.Proofs
open Cel (cells)
set_option maxRecDepth 100000
set_option linter.unusedSimpArgs false
set_option linter.unusedVariables false

structure GScan where
  t : ByteArray
  pos : Int
  bad : Bool
def numM (s : GScan) : Int × GScan := if s.bad = true then (0, s) else match rd s.t s.pos with
  | none => (0, ⟨s.t, s.pos, true⟩)
  | some x => (x.1, ⟨s.t, x.2, false⟩)

@[simp] def h88 : Hts := { merge := fun _ => false, dr := fun id => if id = 3 then [{}, {}, {}, {}, {}, {}, {}, {}, { cr := true }, {}, {}, {}, {}, {}, {}, {}] else [] }
theorem f88_ok (s : GScan) (ht : s.t.size ≤ 1073741824) : FnW Try.prog 88 [.ptr [.str (s).t, .int .i64 (s).pos, .bool (s).bad]] (.v (.int .i64 ((numM s).1))) [.ptr [.str ((numM s).2).t, .int .i64 ((numM s).2).pos, .bool ((numM s).2).bad]] := by
  obtain ⟨t, p, b⟩ := s
  refine FnW.of_AW TryT_ok 1 (fn := Try.f88) (by kernel_rfl) rfl (by kernel_rfl) rfl rfl rfl ?_
  refine AW_of h88 TryT_ok (by kernel_rfl) ?_
  cases b
  · simp -dsimp
    refine ACallK_of (f138_ok _ _ ht) ?_
    cases g : rd t p with
    | none =>
      simp -dsimp [rdV, rdN]
      simp [numM, g]
    | some x =>
      simp -dsimp [rdV, rdN]
      simp [numM, g]
  · simp -dsimp
    simp [numM]

@[simp] def h98 : Hts := { merge := fun _ => false, dr := fun id => if id = 1 then [{}, {}, {}, {}, {}, {}, {}, {}, { cr := true }, {}, {}, {}, {}, {}, {}, {}] else [] }
theorem f98_ok (s : GScan) (ht : s.t.size ≤ 1073741824) : FnW Try.prog 98 [.ptr [.str (s).t, .int .i64 (s).pos, .bool (s).bad]] (.v (.int .i64 ((numM s).1))) [.ptr [.str ((numM s).2).t, .int .i64 ((numM s).2).pos, .bool ((numM s).2).bad]] := by
  obtain ⟨t, p, b⟩ := s
  refine FnW.of_AW TryT_ok 1 (fn := Try.f98) (by kernel_rfl) rfl (by kernel_rfl) rfl rfl rfl ?_
  refine AW_of h98 TryT_ok (by kernel_rfl) ?_
  cases b
  · simp -dsimp
    refine ACallK_of (f145_ok _ _ ht) ?_
    cases g : rd t p with
    | none =>
      simp -dsimp [rdV, rdN]
      simp [numM, g]
    | some x =>
      simp -dsimp [rdV, rdN]
      simp [numM, g]
  · simp -dsimp
    refine ACallK_of (f145_ok _ _ ht) ?_
    simp -dsimp
    simp [numM]
end Am
