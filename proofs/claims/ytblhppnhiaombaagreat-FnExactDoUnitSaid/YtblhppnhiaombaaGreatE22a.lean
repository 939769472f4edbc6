/- Acts and units that are right. No condition. -/
import Derived.Test.YtblhppnhiaombaaGreatT
import Derived.Test.YtblhppnhiaombaaGreatD
import Derived.Test.YtblhppnhiaombaaGreatE8
import Derived.Test.YtblhppnhiaombaaGreatE21
import Derived.Test.YtblhppnhiaombaaGreatAm31
namespace Am
open Go Go.Proofs
open Cel (cells)
set_option maxRecDepth 100000
set_option linter.unusedSimpArgs false
set_option linter.unusedVariables false

theorem bne2 (x y : Int) : ((x != y) = true ∧ (x == y) = false) ∨ ((x != y) = false ∧ (x == y) = true) := by
  by_cases h : x = y <;> simp [h]
def refZ (d : GDot) : Bool := d.rep == 0 && d.seq == 0
def actRef (a : GAct) : Bool := if (a.kind == 7) = true then knows a.knew a.ref else if (a.kind == 6) = true then refZ a.ref || knows a.knew a.ref else refZ a.ref
def actOk (a : GAct) : Bool := dotOk a.dot && knowOk a.knew && (nth a.knew a.dot.rep.toNat == a.dot.seq - 1) && spIn a.time 1 10000 && plain a.kind a.val a.obj a.key && actRef a

@[simp] def h136 : Hts := { merge := fun _ => false, mergeF := fun _ => false, dr := fun id => if id = 1 then [{}, {}, { cr := true }, {}, {}, {}, {}, { cr := true }, {}, {}, {}, {}, {}, {}, {}, {}, {}, {}, {}, {}, {}, {}, {}, {}, {}, {}, {}, { cr := true }, {}, {}, {}, {}, {}, {}, {}, {}, {}, {}, {}, { cr := true }, {}, {}] else [] }
set_option maxHeartbeats 2000000 in
theorem f136_ok (a : GAct) (h : a.Ok) : FnR Tryz.prog 136 [.agg [.int .i64 a.dot.rep, .int .i64 a.dot.seq, .int .i64 a.time, .im a.knew.length (flat a.knew), .int .i64 a.kind, .str a.obj, .str a.key, .int .i64 a.val, .int .i64 a.ref.rep, .int .i64 a.ref.seq]] (.v (.bool (actOk a))) := by
  simp only [GAct.Ok] at h
  obtain ⟨o0, o1, o2⟩ := h
  refine FnW.of_AW TryzT_ok 0 (fn := Tryz.f136) (by kernel_rfl) rfl (by kernel_rfl) rfl rfl rfl ?_; refine AW_of h136 TryzT_ok (by kernel_rfl) ?_
  simp -dsimp
  refine ACallK_of (f193_ok _) ?_
  cases g1 : dotOk a.dot
  · simp -dsimp
    simp [actOk, g1]
  simp -dsimp
  refine ACallK_of (f216_ok _ o0) ?_
  cases g2 : knowOk a.knew
  · simp -dsimp
    simp [actOk, g2]
  obtain ⟨r1, r2, r3⟩ := dot_range g2 g1
  have hs : 1 ≤ a.dot.seq ∧ a.dot.seq ≤ 1000 := by simp [dotOk, spIn] at g1; omega
  have w : IntKind.i64.wrap (a.dot.seq - 1) = a.dot.seq - 1 := wrap64 (by omega) (by omega)
  rcases bne2 (nth a.knew a.dot.rep.toNat) (a.dot.seq - 1) with ⟨e1, e2⟩ | ⟨e1, e2⟩
  · simp -dsimp [r1, ne_of_lt r1, w, e1]
    repeat (first | refine ⟨by omega, ?_⟩ | refine ⟨⟨by omega, by omega⟩, ?_⟩)
    simp [actOk, e2]
  simp -dsimp [r1, ne_of_lt r1, w, e1]
  repeat (first | refine ⟨by omega, ?_⟩ | refine ⟨⟨by omega, by omega⟩, ?_⟩)
  refine ACallK_of (f86_ok _ _ _) ?_
  cases g4 : spIn a.time 1 10000
  · simp -dsimp
    simp [actOk, g4]
  simp -dsimp
  refine ACallK_of (f224_ok _ _ _ _ (by omega) (by omega)) ?_
  cases g5 : plain a.kind a.val a.obj a.key
  · simp -dsimp
    simp [actOk, g5]
  rcases bne2 a.kind 7 with ⟨c1, c2⟩ | ⟨c1, c2⟩
  · rcases bne2 a.kind 6 with ⟨d1, d2⟩ | ⟨d1, d2⟩
    · simp -dsimp [c1, c2, d1, d2]
      simp [actOk, actRef, g1, g2, e2, g4, g5, c2, d2, refZ]
    · rcases bne2 a.ref.rep 0 with ⟨p1, p2⟩ | ⟨p1, p2⟩ <;> rcases bne2 a.ref.seq 0 with ⟨q1, q2⟩ | ⟨q1, q2⟩
      all_goals (
        simp -dsimp [c1, c2, d1, d2, p1, p2, q1, q2]
        first
        | (simp [actOk, actRef, g1, g2, e2, g4, g5, c2, d2, refZ, p2, q2]; done)
        | (refine ACallK_of (f137_ok _ _ o0) ?_
           simp -dsimp
           simp [actOk, actRef, g1, g2, e2, g4, g5, c2, d2, refZ, p2, q2]))
  · simp -dsimp [c1, c2]
    refine ACallK_of (f137_ok _ _ o0) ?_
    simp -dsimp
    simp [actOk, actRef, g1, g2, e2, g4, g5, c2]

@[simp] def h157 : Hts := { merge := fun _ => false, mergeF := fun _ => false, dr := fun id => if id = 1 then [{}, {}, { cr := true }, {}, {}, {}, {}, { cr := true }, {}, {}, {}, {}, {}, {}, {}, {}, {}, {}, {}, {}, {}, {}, {}, {}, {}, {}, {}, { cr := true }, {}, {}] else [] }
set_option maxHeartbeats 2000000 in
theorem f157_ok (a : GAct) (h : a.Ok) : FnR Tryz.prog 157 [.agg [.int .i64 a.dot.rep, .int .i64 a.dot.seq, .int .i64 a.time, .im a.knew.length (flat a.knew), .int .i64 a.kind, .str a.obj, .str a.key, .int .i64 a.val, .int .i64 a.ref.rep, .int .i64 a.ref.seq]] (.v (.bool (actOk a))) := by
  simp only [GAct.Ok] at h
  obtain ⟨o0, o1, o2⟩ := h
  refine FnW.of_AW TryzT_ok 0 (fn := Tryz.f157) (by kernel_rfl) rfl (by kernel_rfl) rfl rfl rfl ?_; refine AW_of h157 TryzT_ok (by kernel_rfl) ?_
  simp -dsimp
  refine ACallK_of (f233_ok _) ?_
  cases g1 : dotOk a.dot
  · simp -dsimp
    simp [actOk, g1]
  simp -dsimp
  refine ACallK_of (f227_ok _ o0) ?_
  cases g2 : knowOk a.knew
  · simp -dsimp
    simp [actOk, g2]
  obtain ⟨r1, r2, r3⟩ := dot_range g2 g1
  have hs : 1 ≤ a.dot.seq ∧ a.dot.seq ≤ 1000 := by simp [dotOk, spIn] at g1; omega
  have w : IntKind.i64.wrap (a.dot.seq - 1) = a.dot.seq - 1 := wrap64 (by omega) (by omega)
  rcases bne2 (nth a.knew a.dot.rep.toNat) (a.dot.seq - 1) with ⟨e1, e2⟩ | ⟨e1, e2⟩
  · simp -dsimp [r1, ne_of_lt r1, w, e1]
    repeat (first | refine ⟨by omega, ?_⟩ | refine ⟨⟨by omega, by omega⟩, ?_⟩)
    simp [actOk, e2]
  simp -dsimp [r1, ne_of_lt r1, w, e1]
  repeat (first | refine ⟨by omega, ?_⟩ | refine ⟨⟨by omega, by omega⟩, ?_⟩)
  refine ACallK_of (f92_ok _ _ _) ?_
  cases g4 : spIn a.time 1 10000
  · simp -dsimp
    simp [actOk, g4]
  rcases bne2 a.kind 7 with ⟨c1, c2⟩ | ⟨c1, c2⟩
  rotate_left
  · simp -dsimp [c1, c2]
    refine ACallK_of (f151_ok _ _ o0) ?_
    cases k : knows a.knew a.ref
    · simp -dsimp [c1, c2]
      simp [actOk, actRef, g1, g2, e2, g4, c2, k]
    simp -dsimp [c1, c2]
    refine ACallK_of (f242_ok _ _ _ _ (by omega) (by omega)) ?_
    simp -dsimp
    simp [actOk, actRef, g1, g2, e2, g4, c2, k]
  rcases bne2 a.kind 6 with ⟨d1, d2⟩ | ⟨d1, d2⟩
  · rcases bne2 a.ref.rep 0 with ⟨p1, p2⟩ | ⟨p1, p2⟩ <;> rcases bne2 a.ref.seq 0 with ⟨q1, q2⟩ | ⟨q1, q2⟩
    · simp -dsimp [c1, c2, d1, d2, p1, p2, q1, q2]
      simp [actOk, actRef, g1, g2, e2, g4, c2, d2, refZ, p2, q2]
    · simp -dsimp [c1, c2, d1, d2, p1, p2, q1, q2]
      simp [actOk, actRef, g1, g2, e2, g4, c2, d2, refZ, p2, q2]
    · simp -dsimp [c1, c2, d1, d2, p1, p2, q1, q2]
      simp [actOk, actRef, g1, g2, e2, g4, c2, d2, refZ, p2, q2]
    · simp -dsimp [c1, c2, d1, d2, p1, p2, q1, q2]
      refine ACallK_of (f242_ok _ _ _ _ (by omega) (by omega)) ?_
      simp -dsimp
      simp [actOk, actRef, g1, g2, e2, g4, c2, d2, refZ, p2, q2]
  · rcases bne2 a.ref.rep 0 with ⟨p1, p2⟩ | ⟨p1, p2⟩ <;> rcases bne2 a.ref.seq 0 with ⟨q1, q2⟩ | ⟨q1, q2⟩
    · simp -dsimp [c1, c2, d1, d2, p1, p2, q1, q2]
      refine ACallK_of (f151_ok _ _ o0) ?_
      cases k : knows a.knew a.ref
      · simp -dsimp [c1, c2, d1, d2, p1, p2, q1, q2]
        simp [actOk, actRef, g1, g2, e2, g4, c2, d2, refZ, p2, q2, k]
      simp -dsimp [c1, c2, d1, d2, p1, p2, q1, q2]
      refine ACallK_of (f242_ok _ _ _ _ (by omega) (by omega)) ?_
      simp -dsimp
      simp [actOk, actRef, g1, g2, e2, g4, c2, d2, refZ, p2, q2, k]
    · simp -dsimp [c1, c2, d1, d2, p1, p2, q1, q2]
      refine ACallK_of (f151_ok _ _ o0) ?_
      cases k : knows a.knew a.ref
      · simp -dsimp [c1, c2, d1, d2, p1, p2, q1, q2]
        simp [actOk, actRef, g1, g2, e2, g4, c2, d2, refZ, p2, q2, k]
      simp -dsimp [c1, c2, d1, d2, p1, p2, q1, q2]
      refine ACallK_of (f242_ok _ _ _ _ (by omega) (by omega)) ?_
      simp -dsimp
      simp [actOk, actRef, g1, g2, e2, g4, c2, d2, refZ, p2, q2, k]
    · simp -dsimp [c1, c2, d1, d2, p1, p2, q1, q2]
      refine ACallK_of (f151_ok _ _ o0) ?_
      cases k : knows a.knew a.ref
      · simp -dsimp [c1, c2, d1, d2, p1, p2, q1, q2]
        simp [actOk, actRef, g1, g2, e2, g4, c2, d2, refZ, p2, q2, k]
      simp -dsimp [c1, c2, d1, d2, p1, p2, q1, q2]
      refine ACallK_of (f242_ok _ _ _ _ (by omega) (by omega)) ?_
      simp -dsimp
      simp [actOk, actRef, g1, g2, e2, g4, c2, d2, refZ, p2, q2, k]
    · simp -dsimp [c1, c2, d1, d2, p1, p2, q1, q2]
      refine ACallK_of (f242_ok _ _ _ _ (by omega) (by omega)) ?_
      simp -dsimp
      simp [actOk, actRef, g1, g2, e2, g4, c2, d2, refZ, p2, q2]

def zeroAct : GAct := ⟨⟨0, 0⟩, 0, [], 0, ⟨#[]⟩, ⟨#[]⟩, 0, ⟨0, 0⟩⟩
end Am
