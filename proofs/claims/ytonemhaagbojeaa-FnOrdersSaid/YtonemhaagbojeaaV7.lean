/- Drawn: acts, right or not. No condition. -/
import Derived.Test.YtonemhaagbojeaaT
import Derived.Test.YtonemhaagbojeaaD
import Derived.Test.YtonemhaagbojeaaV1
import Derived.Test.YtonemhaagbojeaaE16
import Derived.Test.YtonemhaagbojeaaU1
import Derived.Test.YtonemhaagbojeaaE93a
import Derived.Test.YtonemhaagbojeaaAm29
import Derived.Test.YtonemhaagbojeaaAm31
import Derived.Test.YtonemhaagbojeaaE76
import Derived.Test.YtonemhaagbojeaaAm37
namespace Am
open Go Go.Proofs
open Cel (cells)
set_option maxRecDepth 100000
set_option linter.unusedSimpArgs false
set_option linter.unusedVariables false

def ddT (c : GCur) : Int × GCur := curN (dotD c).2 9
def ddW (c : GCur) : List Int × GCur := drawsK (ddT c).2 5 3
def ddK (c : GCur) : Int × GCur := curN (ddW c).2 7
def ddO (c : GCur) : ByteArray × GCur := curPick (ddK c).2 objs
def ddN (c : GCur) : List Int := (ddW c).1.set (dotD c).1.rep.toNat ((dotD c).1.seq - 1)
def ddY (c : GCur) : ByteArray × GCur := if spIn (1 + (ddK c).1) 2 5 = true then curPick (ddO c).2 keys else (⟨#[]⟩, (ddO c).2)
def ddV (c : GCur) : Int × GCur := if valued (1 + (ddK c).1) = true then curPick (ddY c).2 vals else (0, (ddY c).2)
def ddR (c : GCur) : GDot × GCur := if 6 ≤ 1 + (ddK c).1 then dotD (ddV c).2 else (⟨0, 0⟩, (ddV c).2)
def ddKind (c : GCur) : Int := if 7 = 1 + (ddK c).1 ∧ knows (ddN c) (ddR c).1 = false then 6 else 1 + (ddK c).1
def ddRef (c : GCur) : GDot := if 6 ≤ 1 + (ddK c).1 ∧ knows (ddN c) (ddR c).1 = true then (ddR c).1 else ⟨0, 0⟩
/-- An act drawn. -/
def actD (c : GCur) : GAct × GCur := (⟨(dotD c).1, 1 + (ddT c).1, ddN c, ddKind c, (ddO c).1, (ddY c).1, (ddV c).1, ddRef c⟩, (ddR c).2)
theorem ddO_ok {c : GCur} (h : c.Ok) : (ddO c).2.Ok := curPick_ok (curN_ok (drawsK_ok (curN_ok (dotD_ok h) _) _ _) _) _
theorem ddY_ok {c : GCur} (h : c.Ok) : (ddY c).2.Ok := by
  unfold ddY
  split
  · exact curPick_ok (ddO_ok h) _
  · exact ddO_ok h
theorem ddV_ok {c : GCur} (h : c.Ok) : (ddV c).2.Ok := by
  unfold ddV
  split
  · exact curPick_ok (ddY_ok h) _
  · exact ddY_ok h
theorem actD_ok {c : GCur} (h : c.Ok) : (actD c).2.Ok := by
  show (ddR c).2.Ok
  unfold ddR
  split
  · exact dotD_ok (ddV_ok h)
  · exact ddV_ok h
theorem ddN_len (c : GCur) : (ddN c).length = 3 := by simp [ddN, ddW, drawsK_len]
theorem actD_Ok (c : GCur) : (actD c).1.Ok := by
  have h1 : (ddO c).1.size ≤ 8 := (objs_ok _).2
  have h2 : (ddY c).1.size ≤ 8 := by
    unfold ddY
    split
    · exact (keys_ok _).2
    · exact Nat.zero_le _
  simp only [GAct.Ok, actD, ddN_len]
  omega

@[simp] def h94 : Hts := { merge := fun _ => false, mergeF := fun _ => false, lend := fun f => if f = 97 then [.box [], .lend] else if f = 47 || f = 44 || f = 112 || f = 45 || f = 46 then [.box []] else [] }
set_option maxHeartbeats 8000000 in
theorem f94_ok (c : GCur) (hc : c.Ok) : FnW Try.prog 94 [.ptr [.im c.b.length (flat c.b), .int .i64 c.i, .int .i64 c.h]] (.agg [.int .i64 ((actD c).1).dot.rep, .int .i64 ((actD c).1).dot.seq, .int .i64 ((actD c).1).time, .ow 3 1 ((actD c).1).knew.length (flat ((actD c).1).knew), .int .i64 ((actD c).1).kind, .str ((actD c).1).obj, .str ((actD c).1).key, .int .i64 ((actD c).1).val, .int .i64 ((actD c).1).ref.rep, .int .i64 ((actD c).1).ref.seq]) [.ptr [.im ((actD c).2).b.length (flat ((actD c).2).b), .int .i64 ((actD c).2).i, .int .i64 ((actD c).2).h]] := by
  have b1 := curN_bd c (n := 3) (by decide)
  have b2 := curN_bd (curN c 3).2 (n := 5) (by decide)
  have b3 := curN_bd (dotD c).2 (n := 9) (by decide)
  have b4 := curN_bd (ddW c).2 (n := 7) (by decide)
  have dr : (dotD c).1.rep = (curN c 3).1 := rfl
  have ds : (dotD c).1.seq = 1 + (curN (curN c 3).2 5).1 := rfl
  obtain ⟨ρ, hρ⟩ := Int.eq_ofNat_of_zero_le (show 0 ≤ (dotD c).1.rep by omega)
  have hl : (drawsK (curN (dotD c).2 9).2 5 3).1.length = 3 := drawsK_len _ _ _
  have hρ3 : ρ < (drawsK (curN (dotD c).2 9).2 5 3).1.length := by rw [hl]; omega
  have w1 : IntKind.i64.wrap (1 + (curN (dotD c).2 9).1) = 1 + (curN (dotD c).2 9).1 := wrap64 (by omega) (by omega)
  have w2 : IntKind.i64.wrap ((dotD c).1.seq - 1) = (dotD c).1.seq - 1 := wrap64 (by omega) (by omega)
  have c1 : (dotD c).2.Ok := dotD_ok hc
  have c2 : (curN (dotD c).2 9).2.Ok := curN_ok c1 _
  have c3 : (drawsK (curN (dotD c).2 9).2 5 3).2.Ok := drawsK_ok c2 _ _
  have hN : ddN c = (drawsK (curN (dotD c).2 9).2 5 3).1.set ρ ((dotD c).1.seq - 1) := by simp [ddN, ddW, ddT, hρ]
  have hNl := ddN_len c
  have hNl' : (ddN c).length = (drawsK (curN (dotD c).2 9).2 5 3).1.length := by rw [hNl, hl]
  refine FnW.of_AW TryT_ok 1 (fn := Try.f94) (by kernel_rfl) rfl (by kernel_rfl) rfl rfl rfl ?_; refine AW_of h94 TryT_ok (by kernel_rfl) ?_
  simp -dsimp
  refine ACallW_args (by intro us; simp -dsimp; exact ⟨rfl, rfl, rfl⟩) ?_
  refine ACallC_of (fun us => f47_ok c hc) (by intro us; simp -dsimp; exact ⟨rfl, rfl⟩) ?_
  simp -dsimp [w1]
  refine ACallW_args (by intro us; simp -dsimp; exact ⟨rfl, rfl, rfl⟩) ?_
  refine ACallC_of (fun us => f44_ok (dotD c).2 c1 9) (by intro us; simp -dsimp; exact ⟨rfl, rfl⟩) ?_
  simp -dsimp [w1]
  refine ACallW_args (by intro us; simp -dsimp; exact ⟨rfl, rfl, rfl⟩) ?_
  refine ACallC_of (fun us => f112_ok (curN (dotD c).2 9).2 c2) (by intro us; simp -dsimp; exact ⟨rfl, rfl⟩) ?_
  simp -dsimp [w1]
  refine ACallW_args (by intro us; simp -dsimp; exact ⟨rfl, rfl, rfl⟩) ?_
  refine ACallC_of (fun us => f44_ok (drawsK (curN (dotD c).2 9).2 5 3).2 c3 7) (by intro us; simp -dsimp; exact ⟨rfl, rfl⟩) ?_
  simp -dsimp [w1]
  have key : (curN (drawsK (curN (dotD c).2 9).2 5 3).2 7).1 = 0 ∨ (curN (drawsK (curN (dotD c).2 9).2 5 3).2 7).1 = 1 ∨ (curN (drawsK (curN (dotD c).2 9).2 5 3).2 7).1 = 2 ∨ (curN (drawsK (curN (dotD c).2 9).2 5 3).2 7).1 = 3 ∨ (curN (drawsK (curN (dotD c).2 9).2 5 3).2 7).1 = 4 ∨ (curN (drawsK (curN (dotD c).2 9).2 5 3).2 7).1 = 5 ∨ (curN (drawsK (curN (dotD c).2 9).2 5 3).2 7).1 = 6 := by
    have : 0 ≤ (curN (drawsK (curN (dotD c).2 9).2 5 3).2 7).1 ∧ (curN (drawsK (curN (dotD c).2 9).2 5 3).2 7).1 < 7 := b4
    omega
  have eK : (ddK c).1 = (curN (drawsK (curN (dotD c).2 9).2 5 3).2 7).1 := rfl
  refine ACallW_args (by intro us; simp -dsimp; exact ⟨rfl, rfl, rfl⟩) ?_
  refine ACallC_of (fun us => f45_ok (ddK c).2 (curN_ok c3 _)) (by intro us; simp -dsimp [ddK, ddW, ddT]; exact ⟨rfl, rfl⟩) ?_
  rcases key with e | e | e | e | e | e | e
  · have s1 : spIn 1 2 5 = false := by decide
    have s2 : valued 1 = true := by decide
    have wk : IntKind.i64.wrap (1 : Int) = 1 := by decide
    rw [e] at eK
    have s1' : spIn (1 + (0 : Int)) 2 5 = false := by decide
    have s2' : valued (1 + (0 : Int)) = true := by decide
    simp -dsimp [e, wk, hρ, hρ3, ne_of_lt hρ3, w2]
    repeat (first | refine ⟨by omega, ?_⟩ | refine ⟨by simp [capMax]; omega, ?_⟩ | refine ⟨⟨by omega, by omega⟩, ?_⟩)
    rw [← hN]
    refine ACallK_of (f98_ok _) ?_
    simp -dsimp [s1]
    refine ACallK_of (f99_ok _) ?_
    simp -dsimp [s2]
    refine ACallW_args (by intro us; simp -dsimp; exact ⟨rfl, rfl, rfl⟩) ?_
    refine ACallC_of (fun us => f97_ok (ddO c).2 (ddO_ok hc) vals (by simp [vals])) (by intro us; simp -dsimp [ddO, ddK, ddW, ddT]; exact ⟨rfl, rfl⟩) ?_
    simp -dsimp
    simp [actD, ddKind, ddRef, ddR, ddV, ddY, ddO, ddK, ddW, ddT, e, s1', s2', s1, s2, hρ, hl, hNl]
  · have s1 : spIn 2 2 5 = true := by decide
    have s2 : valued 2 = false := by decide
    have wk : IntKind.i64.wrap (2 : Int) = 2 := by decide
    rw [e] at eK
    have s1' : spIn (1 + (1 : Int)) 2 5 = true := by decide
    have s2' : valued (1 + (1 : Int)) = false := by decide
    simp -dsimp [e, wk, hρ, hρ3, ne_of_lt hρ3, w2]
    repeat (first | refine ⟨by omega, ?_⟩ | refine ⟨by simp [capMax]; omega, ?_⟩ | refine ⟨⟨by omega, by omega⟩, ?_⟩)
    rw [← hN]
    refine ACallK_of (f98_ok _) ?_
    simp -dsimp [s1]
    refine ACallW_args (by intro us; simp -dsimp; exact ⟨rfl, rfl, rfl⟩) ?_
    refine ACallC_of (fun us => f46_ok (ddO c).2 (ddO_ok hc)) (by intro us; simp -dsimp [ddO, ddK, ddW, ddT]; exact ⟨rfl, rfl⟩) ?_
    simp -dsimp
    refine ACallK_of (f99_ok _) ?_
    simp -dsimp [s2]
    simp [actD, ddKind, ddRef, ddR, ddV, ddY, ddO, ddK, ddW, ddT, e, s1', s2', s1, s2, hρ, hl, hNl]
  · have s1 : spIn 3 2 5 = true := by decide
    have s2 : valued 3 = false := by decide
    have wk : IntKind.i64.wrap (3 : Int) = 3 := by decide
    rw [e] at eK
    have s1' : spIn (1 + (2 : Int)) 2 5 = true := by decide
    have s2' : valued (1 + (2 : Int)) = false := by decide
    simp -dsimp [e, wk, hρ, hρ3, ne_of_lt hρ3, w2]
    repeat (first | refine ⟨by omega, ?_⟩ | refine ⟨by simp [capMax]; omega, ?_⟩ | refine ⟨⟨by omega, by omega⟩, ?_⟩)
    rw [← hN]
    refine ACallK_of (f98_ok _) ?_
    simp -dsimp [s1]
    refine ACallW_args (by intro us; simp -dsimp; exact ⟨rfl, rfl, rfl⟩) ?_
    refine ACallC_of (fun us => f46_ok (ddO c).2 (ddO_ok hc)) (by intro us; simp -dsimp [ddO, ddK, ddW, ddT]; exact ⟨rfl, rfl⟩) ?_
    simp -dsimp
    refine ACallK_of (f99_ok _) ?_
    simp -dsimp [s2]
    simp [actD, ddKind, ddRef, ddR, ddV, ddY, ddO, ddK, ddW, ddT, e, s1', s2', s1, s2, hρ, hl, hNl]
  · have s1 : spIn 4 2 5 = true := by decide
    have s2 : valued 4 = true := by decide
    have wk : IntKind.i64.wrap (4 : Int) = 4 := by decide
    rw [e] at eK
    have s1' : spIn (1 + (3 : Int)) 2 5 = true := by decide
    have s2' : valued (1 + (3 : Int)) = true := by decide
    simp -dsimp [e, wk, hρ, hρ3, ne_of_lt hρ3, w2]
    repeat (first | refine ⟨by omega, ?_⟩ | refine ⟨by simp [capMax]; omega, ?_⟩ | refine ⟨⟨by omega, by omega⟩, ?_⟩)
    rw [← hN]
    refine ACallK_of (f98_ok _) ?_
    simp -dsimp [s1]
    refine ACallW_args (by intro us; simp -dsimp; exact ⟨rfl, rfl, rfl⟩) ?_
    refine ACallC_of (fun us => f46_ok (ddO c).2 (ddO_ok hc)) (by intro us; simp -dsimp [ddO, ddK, ddW, ddT]; exact ⟨rfl, rfl⟩) ?_
    simp -dsimp
    refine ACallK_of (f99_ok _) ?_
    simp -dsimp [s2]
    refine ACallW_args (by intro us; simp -dsimp; exact ⟨rfl, rfl, rfl⟩) ?_
    refine ACallC_of (fun us => f97_ok (curPick (ddO c).2 keys).2 (curPick_ok (ddO_ok hc) _) vals (by simp [vals])) (by intro us; simp -dsimp [ddO, ddK, ddW, ddT]; exact ⟨rfl, rfl⟩) ?_
    simp -dsimp
    simp [actD, ddKind, ddRef, ddR, ddV, ddY, ddO, ddK, ddW, ddT, e, s1', s2', s1, s2, hρ, hl, hNl]
  · have s1 : spIn 5 2 5 = true := by decide
    have s2 : valued 5 = false := by decide
    have wk : IntKind.i64.wrap (5 : Int) = 5 := by decide
    rw [e] at eK
    have s1' : spIn (1 + (4 : Int)) 2 5 = true := by decide
    have s2' : valued (1 + (4 : Int)) = false := by decide
    simp -dsimp [e, wk, hρ, hρ3, ne_of_lt hρ3, w2]
    repeat (first | refine ⟨by omega, ?_⟩ | refine ⟨by simp [capMax]; omega, ?_⟩ | refine ⟨⟨by omega, by omega⟩, ?_⟩)
    rw [← hN]
    refine ACallK_of (f98_ok _) ?_
    simp -dsimp [s1]
    refine ACallW_args (by intro us; simp -dsimp; exact ⟨rfl, rfl, rfl⟩) ?_
    refine ACallC_of (fun us => f46_ok (ddO c).2 (ddO_ok hc)) (by intro us; simp -dsimp [ddO, ddK, ddW, ddT]; exact ⟨rfl, rfl⟩) ?_
    simp -dsimp
    refine ACallK_of (f99_ok _) ?_
    simp -dsimp [s2]
    simp [actD, ddKind, ddRef, ddR, ddV, ddY, ddO, ddK, ddW, ddT, e, s1', s2', s1, s2, hρ, hl, hNl]
  · have s1 : spIn 6 2 5 = false := by decide
    have s2 : valued 6 = true := by decide
    have wk : IntKind.i64.wrap (6 : Int) = 6 := by decide
    rw [e] at eK
    have s1' : spIn (1 + (5 : Int)) 2 5 = false := by decide
    have s2' : valued (1 + (5 : Int)) = true := by decide
    simp -dsimp [e, wk, hρ, hρ3, ne_of_lt hρ3, w2]
    repeat (first | refine ⟨by omega, ?_⟩ | refine ⟨by simp [capMax]; omega, ?_⟩ | refine ⟨⟨by omega, by omega⟩, ?_⟩)
    rw [← hN]
    refine ACallK_of (f98_ok _) ?_
    simp -dsimp [s1]
    refine ACallK_of (f99_ok _) ?_
    simp -dsimp [s2]
    refine ACallW_args (by intro us; simp -dsimp; exact ⟨rfl, rfl, rfl⟩) ?_
    refine ACallC_of (fun us => f97_ok (ddO c).2 (ddO_ok hc) vals (by simp [vals])) (by intro us; simp -dsimp [ddO, ddK, ddW, ddT]; exact ⟨rfl, rfl⟩) ?_
    simp -dsimp
    refine ACallW_args (by intro us; simp -dsimp; exact ⟨rfl, rfl, rfl⟩) ?_
    refine ACallC_of (fun us => f47_ok (curPick (ddO c).2 vals).2 (curPick_ok (ddO_ok hc) _)) (by intro us; simp -dsimp [ddO, ddK, ddW, ddT]; exact ⟨rfl, rfl⟩) ?_
    simp -dsimp
    have hkn := f30_ok (ddN c) (dotD (curPick (ddO c).2 vals).2).1 (by omega)
    rw [hNl'] at hkn
    refine ACallK_of (hkn) ?_
    cases q : knows (ddN c) (dotD (curPick (ddO c).2 vals).2).1
    all_goals
      have q2 := q
      simp only [ddO, ddK, ddW, ddT] at q2
      simp -dsimp
      simp [actD, ddKind, ddRef, ddR, ddV, ddY, ddO, ddK, ddW, ddT, e, s1', s2', s1, s2, hρ, hl, hNl, q2]
  · have s1 : spIn 7 2 5 = false := by decide
    have s2 : valued 7 = false := by decide
    have wk : IntKind.i64.wrap (7 : Int) = 7 := by decide
    rw [e] at eK
    have s1' : spIn (1 + (6 : Int)) 2 5 = false := by decide
    have s2' : valued (1 + (6 : Int)) = false := by decide
    simp -dsimp [e, wk, hρ, hρ3, ne_of_lt hρ3, w2]
    repeat (first | refine ⟨by omega, ?_⟩ | refine ⟨by simp [capMax]; omega, ?_⟩ | refine ⟨⟨by omega, by omega⟩, ?_⟩)
    rw [← hN]
    refine ACallK_of (f98_ok _) ?_
    simp -dsimp [s1]
    refine ACallK_of (f99_ok _) ?_
    simp -dsimp [s2]
    refine ACallW_args (by intro us; simp -dsimp; exact ⟨rfl, rfl, rfl⟩) ?_
    refine ACallC_of (fun us => f47_ok (ddO c).2 (ddO_ok hc)) (by intro us; simp -dsimp [ddO, ddK, ddW, ddT]; exact ⟨rfl, rfl⟩) ?_
    simp -dsimp
    have hkn := f30_ok (ddN c) (dotD (ddO c).2).1 (by omega)
    rw [hNl'] at hkn
    refine ACallK_of (hkn) ?_
    cases q : knows (ddN c) (dotD (ddO c).2).1
    all_goals
      have q2 := q
      simp only [ddO, ddK, ddW, ddT] at q2
      simp -dsimp
      simp [actD, ddKind, ddRef, ddR, ddV, ddY, ddO, ddK, ddW, ddT, e, s1', s2', s1, s2, hρ, hl, hNl, q2]

/-- An act turned. -/
def actM (k y : Int) (a : GAct) : GAct :=
  if k = 0 then { a with dot := ⟨a.dot.rep, y.tmod 7⟩ }
  else if k = 1 then { a with time := nth ([0, 10000, 10001] : List Int) (y.tmod 3).toNat }
  else if k = 2 then { a with kind := y.tmod 10 }
  else if k = 3 then { a with key := nth ([⟨#[]⟩, ⟨#[120]⟩, ⟨#[88]⟩] : List ByteArray) (y.tmod 3).toNat }
  else if k = 4 then { a with val := nth ([-1, 5, 1000000] : List Int) (y.tmod 3).toNat }
  else if k = 5 then { a with ref := ⟨y.tmod 4, y.tmod 3⟩ }
  else if k = 6 then { a with knew := a.knew ++ [1] }
  else a
def anyA (c : GCur) : GAct × GCur := (actM (curN c 12).1 (curN (curN c 12).2 60).1 (actD (curN (curN c 12).2 60).2).1, (actD (curN (curN c 12).2 60).2).2)
theorem anyA_ok {c : GCur} (h : c.Ok) : (anyA c).2.Ok := actD_ok (curN_ok (curN_ok h _) _)
theorem anyA_Ok (c : GCur) : (anyA c).1.Ok := by
  have h := actD_Ok (curN (curN c 12).2 60).2
  have hb := curN_bd (curN c 12).2 (n := 60) (by decide)
  have hl : (actD (curN (curN c 12).2 60).2).1.knew.length = 3 := ddN_len _
  have t3 := tmod_bd hb.1 (n := 3) (by decide)
  show (actM (curN c 12).1 (curN (curN c 12).2 60).1 (actD (curN (curN c 12).2 60).2).1).Ok
  simp only [GAct.Ok] at h ⊢
  unfold actM
  split
  · exact h
  split
  · exact h
  split
  · exact h
  split
  · refine ⟨h.1, h.2.1, ?_⟩
    have hm : nth ([⟨#[]⟩, ⟨#[120]⟩, ⟨#[88]⟩] : List ByteArray) ((curN (curN c 12).2 60).1.tmod 3).toNat ∈ ([⟨#[]⟩, ⟨#[120]⟩, ⟨#[88]⟩] : List ByteArray) := nth_mem (by simp; omega)
    simp only [List.mem_cons, List.not_mem_nil, or_false] at hm
    simp only
    rcases hm with e | e | e <;> rw [e] <;> decide
  split
  · exact h
  split
  · exact h
  split
  · refine ⟨by simp only [List.length_append, List.length_singleton]; omega, h.2⟩
  · exact h

@[simp] def h63 : Hts := { merge := fun _ => false, mergeF := fun _ => false, lend := fun f => if f = 44 || f = 94 then [.box []] else [] }
set_option maxHeartbeats 8000000 in
theorem f63_ok (c : GCur) (hc : c.Ok) : FnW Try.prog 63 [.ptr [.im c.b.length (flat c.b), .int .i64 c.i, .int .i64 c.h]] (.agg [.int .i64 ((anyA c).1).dot.rep, .int .i64 ((anyA c).1).dot.seq, .int .i64 ((anyA c).1).time, .ow 3 1 ((anyA c).1).knew.length (flat ((anyA c).1).knew), .int .i64 ((anyA c).1).kind, .str ((anyA c).1).obj, .str ((anyA c).1).key, .int .i64 ((anyA c).1).val, .int .i64 ((anyA c).1).ref.rep, .int .i64 ((anyA c).1).ref.seq]) [.ptr [.im ((anyA c).2).b.length (flat ((anyA c).2).b), .int .i64 ((anyA c).2).i, .int .i64 ((anyA c).2).h]] := by
  have hk := curN_bd c (n := 12) (by decide)
  have hy := curN_bd (curN c 12).2 (n := 60) (by decide)
  have hO := actD_Ok (curN (curN c 12).2 60).2
  have d1 : (anyA c).1 = actM (curN c 12).1 (curN (curN c 12).2 60).1 (actD (curN (curN c 12).2 60).2).1 := rfl
  have d2 : (anyA c).2 = (actD (curN (curN c 12).2 60).2).2 := rfl
  have hkl : (actD (curN (curN c 12).2 60).2).1.knew.length = 3 := ddN_len _
  rw [d1, d2]
  refine FnW.of_AW TryT_ok 1 (fn := Try.f63) (by kernel_rfl) rfl (by kernel_rfl) rfl rfl rfl ?_; refine AW_of h63 TryT_ok (by kernel_rfl) ?_
  simp -dsimp
  refine ACallW_args (by intro us; simp -dsimp; exact ⟨rfl, rfl, rfl⟩) ?_
  refine ACallC_of (fun us => f44_ok c hc 12) (by intro us; simp -dsimp; exact ⟨rfl, rfl⟩) ?_
  simp -dsimp
  refine ACallW_args (by intro us; simp -dsimp; exact ⟨rfl, rfl, rfl⟩) ?_
  refine ACallC_of (fun us => f44_ok (curN c 12).2 (curN_ok hc _) 60) (by intro us; simp -dsimp; exact ⟨rfl, rfl⟩) ?_
  simp -dsimp
  refine ACallW_args (by intro us; simp -dsimp; exact ⟨rfl, rfl, rfl⟩) ?_
  refine ACallC_of (fun us => f94_ok (curN (curN c 12).2 60).2 (curN_ok (curN_ok hc _) _)) (by intro us; simp -dsimp; exact ⟨rfl, rfl⟩) ?_
  simp -dsimp
  refine ACallK_of (f93_ok (actD (curN (curN c 12).2 60).2).1 hO) ?_
  generalize (actD (curN (curN c 12).2 60).2).1 = a at *
  generalize (actD (curN (curN c 12).2 60).2).2 = c1 at *
  generalize (curN (curN c 12).2 60).1 = y at *
  generalize (curN c 12).1 = k at *
  have tm : ∀ n : Int, 0 < n → ∃ m : Nat, y.tmod n = m ∧ (m : Int) < n := fun n hn => by
    have := tmod_bd hy.1 hn
    exact ⟨(y.tmod n).toNat, by omega, by omega⟩
  by_cases k0 : k = 0
  · subst k0
    simp -dsimp
    simp [actM]
  by_cases k1 : k = 1
  · obtain ⟨m, e3, m3⟩ := tm 3 (by omega)
    subst k1
    obtain h0 | h0 | h0 : m = 0 ∨ m = 1 ∨ m = 2 := by omega
    · subst h0
      have e3 : y.tmod 3 = 0 := by simpa using e3
      simp -dsimp [e3]
      simp [actM, e3, nth]
    · subst h0
      have e3 : y.tmod 3 = 1 := by simpa using e3
      simp -dsimp [e3]
      simp [actM, e3, nth]
    · subst h0
      have e3 : y.tmod 3 = 2 := by simpa using e3
      simp -dsimp [e3]
      simp [actM, e3, nth]
  by_cases k2 : k = 2
  · subst k2
    simp -dsimp
    simp [actM]
  by_cases k3 : k = 3
  · obtain ⟨m, e3, m3⟩ := tm 3 (by omega)
    subst k3
    obtain h0 | h0 | h0 : m = 0 ∨ m = 1 ∨ m = 2 := by omega
    · subst h0
      have e3 : y.tmod 3 = 0 := by simpa using e3
      simp -dsimp [e3]
      simp [actM, e3, nth]
    · subst h0
      have e3 : y.tmod 3 = 1 := by simpa using e3
      simp -dsimp [e3]
      simp [actM, e3, nth]
    · subst h0
      have e3 : y.tmod 3 = 2 := by simpa using e3
      simp -dsimp [e3]
      simp [actM, e3, nth]
  by_cases k4 : k = 4
  · obtain ⟨m, e3, m3⟩ := tm 3 (by omega)
    subst k4
    obtain h0 | h0 | h0 : m = 0 ∨ m = 1 ∨ m = 2 := by omega
    · subst h0
      have e3 : y.tmod 3 = 0 := by simpa using e3
      simp -dsimp [e3]
      simp [actM, e3, nth]
    · subst h0
      have e3 : y.tmod 3 = 1 := by simpa using e3
      simp -dsimp [e3]
      simp [actM, e3, nth]
    · subst h0
      have e3 : y.tmod 3 = 2 := by simpa using e3
      simp -dsimp [e3]
      simp [actM, e3, nth]
  by_cases k5 : k = 5
  · subst k5
    simp -dsimp
    simp [actM]
  by_cases k6 : k = 6
  · subst k6
    simp -dsimp
    repeat (first | refine ⟨by omega, ?_⟩ | refine ⟨by simp [capMax]; omega, ?_⟩ | refine ⟨⟨by omega, by omega⟩, ?_⟩)
    simp [actM]
  simp -dsimp [k0, k1, k2, k3, k4, k5, k6]
  simp [actM, k0, k1, k2, k3, k4, k5, k6]
end Am
namespace Am
open Go Go.Proofs
open Cel (cells)
set_option maxRecDepth 100000
set_option linter.unusedSimpArgs false
set_option linter.unusedVariables false

def cdK (l : List GAct) (s : GState) : Nat → List Int
  | 0 => []
  | i + 1 => cdK l s i ++ [(doAct (doK l s i) (nth l i)).2]
theorem cdK_len (l : List GAct) (s : GState) : ∀ i, (cdK l s i).length = i
  | 0 => rfl
  | i + 1 => by simp [cdK, cdK_len l s i]
theorem doAct_okW {s : GState} {a : GAct} (hs : s.Ok) (ha : a.Ok) : (doAct s a).1.Ok := by
  by_cases hc : (doAct s a).2 = 0
  · obtain ⟨h1, h2⟩ := done_of hc
    rw [h2]
    exact doneAct_ok hs ha h1.s0.t1 h1.s0.l1 h1.s0.c1
  · rw [doAct_same hc]; exact hs
theorem doK_Ok {l : List GAct} (hl : ∀ a, a ∈ l → a.Ok) {s : GState} (hs : s.Ok) : ∀ i : Nat, i ≤ l.length → (doK l s i).Ok
  | 0, _ => hs
  | i + 1, hi => doAct_okW (doK_Ok hl hs i (by omega)) (hl _ (nth_mem (by omega)))
theorem passK_Ok {l : List GAct} (hl : ∀ a, a ∈ l → a.Ok) {s : GState} (hs : s.Ok) (n : Int) : ∀ i : Nat, i ≤ l.length → (passK l s n i).1.Ok
  | 0, _ => hs
  | i + 1, hi => by
    rw [passK]
    split
    · exact doAct_okW (passK_Ok hl hs n i (by omega)) (hl _ (nth_mem (by omega)))
    · exact passK_Ok hl hs n i (by omega)
theorem passK_n (l : List GAct) (s : GState) (n : Int) : ∀ i : Nat, n ≤ (passK l s n i).2.1 ∧ (passK l s n i).2.1 ≤ n + i
  | 0 => by simp [passK]
  | i + 1 => by
    have := passK_n l s n i
    rw [passK]
    split
    · simp only; omega
    · omega
theorem roundK_Ok {l : List GAct} (hl : ∀ a, a ∈ l → a.Ok) : ∀ k, (roundK l k).1.Ok
  | 0 => stateNew_ok
  | k + 1 => passK_Ok hl (roundK_Ok hl k) _ _ (Nat.le_refl _)
theorem roundK_n (l : List GAct) : ∀ k : Nat, 0 ≤ (roundK l k).2.1 ∧ (roundK l k).2.1 ≤ k * l.length
  | 0 => by simp [roundK]
  | k + 1 => by
    have h1 := roundK_n l k
    have h2 := passK_n l (roundK l k).1 (roundK l k).2.1 l.length
    have e : (roundK l (k + 1)).2.1 = (passK l (roundK l k).1 (roundK l k).2.1 l.length).2.1 := rfl
    have e2 : ((k + 1 : Nat) : Int) * (l.length : Int) = k * l.length + l.length := by push_cast; rw [Int.add_mul, Int.one_mul]
    rw [e, e2]; omega
noncomputable def endK (l : List GAct) : Nat := Classical.choose (roundK_end l)
theorem endK_is (l : List GAct) : endK l ≤ l.length + 1 ∧ (roundK l (endK l)).2.2 = false ∧ ∀ j, j < endK l → (roundK l j).2.2 = true := Classical.choose_spec (roundK_end l)
noncomputable def settled (l : List GAct) : GState × Int := ((roundK l (endK l)).1, (roundK l (endK l)).2.1)


@[simp] def h35 : Hts := { merge := fun _ => false, mergeF := fun _ => false, dr := fun id => if id = 6 then [{ mb := [9] }, { mb := [9] }, { mb := [9] }, { mb := [9] }, { mb := [9] }, { cr := true, mb := [9] }, { mb := [9] }, { mb := [9] }, { mn := [576], mb := [9] }, { cr := true, mb := [26] }, { wr := [576] }, {}] else [] }
set_option maxHeartbeats 8000000 in
theorem f35_ok (s : GState) (l : List GAct) (hs : s.Ok) (hl : ∀ a, a ∈ l → a.Ok) (hn : l.length ≤ 1000000) : FnR Try.prog 35 [.agg [.im s.know.length (flat s.know), .im s.tallies.length (flat s.tallies), .im s.lives.length (flat s.lives), .im s.cs.length (flat s.cs)], .v (.im l.length (flat l))] (.tup [.agg [.ow 3 1 (doK l s l.length).know.length (flat (doK l s l.length).know), .ow 38 3 (doK l s l.length).tallies.length (flat (doK l s l.length).tallies), .ow 40 6 (doK l s l.length).lives.length (flat (doK l s l.length).lives), .ow 35 8 (doK l s l.length).cs.length (flat (doK l s l.length).cs)], .v (.ow 3 1 (cdK l s l.length).length (flat (cdK l s l.length)))]) := by
  refine FnW.of_AW TryT_ok 0 (fn := Try.f35) (by kernel_rfl) rfl (by kernel_rfl) rfl rfl rfl ?_; refine AW_of h35 TryT_ok (by kernel_rfl) ?_
  simp -dsimp
  refine ACallK_of (f43_ok s hs) ?_
  simp -dsimp
  refine AWh_loop (fun i : Nat => i ≤ l.length) (fun i => mkE [(1, .c (.im l.length (flat l))), (4, .box 256 0), (6, .box 384 0), (7, .arr 832), (8, .c (.int .i64 i))] [(256, .box [.nil, .nil, .nil, .nil]), (384, .box [.arr 768, .arr 769, .arr 770, .arr 771]), (768, .arr 0 3 1 (doK l s i).know.length (flat (doK l s i).know)), (769, .arr 0 38 3 (doK l s i).tallies.length (flat (doK l s i).tallies)), (770, .arr 0 40 6 (doK l s i).lives.length (flat (doK l s i).lives)), (771, .arr 0 35 8 (doK l s i).cs.length (flat (doK l s i).cs)), (832, .arr 0 3 1 (cdK l s i).length (flat (cdK l s i)))]) (fun i => l.length - i) 0 (Wk_to [1, 4, 6, 7, 8] [(256, 256), (384, 384), (768, 768), (769, 769), (770, 770), (771, 771), (832, 832)] rfl rfl (by simp [cdK, doK])) (by simp) ?_
  rintro i hi
  have hO := doK_Ok hl hs i hi
  have hcl := cdK_len l s i
  have e1 : doK l s (i + 1) = (doAct (doK l s i) (nth l i)).1 := rfl
  have e2 : cdK l s (i + 1) = cdK l s i ++ [(doAct (doK l s i) (nth l i)).2] := rfl
  have wi : IntKind.i64.wrap ((i : Int) + 1) = i + 1 := wrap64 (by omega) (by omega)
  refine AW_of h35 TryT_ok (by kernel_rfl) ?_
  rcases Nat.lt_or_ge i l.length with h1 | h1
  · simp -dsimp [h1, ne_of_lt h1]
    repeat (first | refine ⟨by omega, ?_⟩ | refine ⟨by simp [capMax]; omega, ?_⟩ | refine ⟨⟨by omega, by omega⟩, ?_⟩)
    refine ACallK_of (f26_ok (doK l s i) (nth l i) hO (hl _ (nth_mem h1))) ?_
    simp -dsimp [wi]
    repeat (first | refine ⟨by omega, ?_⟩ | refine ⟨by simp [capMax]; omega, ?_⟩ | refine ⟨⟨by omega, by omega⟩, ?_⟩)
    exact Back_of (i + 1) [1, 4, 6, 7, 8] [(256, 256), (384, 384), (768, 1664), (769, 1665), (770, 1666), (771, 1667), (832, 2112)] rfl rfl (by simp [e1, e2]) (by omega) (by omega)
  · obtain rfl : i = l.length := by omega
    simp -dsimp

@[simp] def h33 : Hts := { merge := fun _ => false, mergeF := fun _ => false }
set_option maxHeartbeats 8000000 in
theorem f33_ok (s : GState) (l : List GAct) (hs : s.Ok) (hl : ∀ a, a ∈ l → a.Ok) (hn : l.length ≤ 1000000) : FnR Try.prog 33 [.agg [.im s.know.length (flat s.know), .im s.tallies.length (flat s.tallies), .im s.lives.length (flat s.lives), .im s.cs.length (flat s.cs)], .v (.im l.length (flat l))] (.tup [.agg [.ow 3 1 (doK l s l.length).know.length (flat (doK l s l.length).know), .ow 38 3 (doK l s l.length).tallies.length (flat (doK l s l.length).tallies), .ow 40 6 (doK l s l.length).lives.length (flat (doK l s l.length).lives), .ow 35 8 (doK l s l.length).cs.length (flat (doK l s l.length).cs)], .v (.ow 3 1 (cdK l s l.length).length (flat (cdK l s l.length)))]) := by
  refine FnW.of_AW TryT_ok 0 (fn := Try.f33) (by kernel_rfl) rfl (by kernel_rfl) rfl rfl rfl ?_; refine AW_of h33 TryT_ok (by kernel_rfl) ?_
  simp -dsimp
  refine ACallK_of (f67_ok s hs) ?_
  simp -dsimp
  refine AWh_loop (fun i : Nat => i ≤ l.length) (fun i => mkE [(4, .box 256 0), (6, .box 384 0), (7, .arr 896), (15, .c (.im l.length (flat l))), (16, .c (.int .i64 l.length)), (17, .c (.int .i64 i))] [(256, .box [.nil, .nil, .nil, .nil]), (384, .box [.arr 832, .arr 833, .arr 834, .arr 835]), (832, .arr 0 3 1 (doK l s i).know.length (flat (doK l s i).know)), (833, .arr 0 38 3 (doK l s i).tallies.length (flat (doK l s i).tallies)), (834, .arr 0 40 6 (doK l s i).lives.length (flat (doK l s i).lives)), (835, .arr 0 35 8 (doK l s i).cs.length (flat (doK l s i).cs)), (896, .arr 0 3 1 (cdK l s i).length (flat (cdK l s i)))]) (fun i => l.length - i) 0 (Wk_to [4, 6, 7, 15, 16, 17] [(256, 256), (384, 384), (832, 832), (833, 833), (834, 834), (835, 835), (896, 896)] rfl rfl (by simp [cdK, doK])) (by simp) ?_
  rintro i hi
  have hO := doK_Ok hl hs i hi
  have hcl := cdK_len l s i
  have e1 : doK l s (i + 1) = (doAct (doK l s i) (nth l i)).1 := rfl
  have e2 : cdK l s (i + 1) = cdK l s i ++ [(doAct (doK l s i) (nth l i)).2] := rfl
  have wi : IntKind.i64.wrap ((i : Int) + 1) = i + 1 := wrap64 (by omega) (by omega)
  refine AW_of h33 TryT_ok (by kernel_rfl) ?_
  rcases Nat.lt_or_ge i l.length with h1 | h1
  · simp -dsimp [h1, ne_of_lt h1]
    repeat (first | refine ⟨by omega, ?_⟩ | refine ⟨by simp [capMax]; omega, ?_⟩ | refine ⟨⟨by omega, by omega⟩, ?_⟩)
    refine ACallK_of (f25_ok (doK l s i) (nth l i) hO (hl _ (nth_mem h1))) ?_
    simp -dsimp [wi]
    repeat (first | refine ⟨by omega, ?_⟩ | refine ⟨by simp [capMax]; omega, ?_⟩ | refine ⟨⟨by omega, by omega⟩, ?_⟩)
    exact Back_of (i + 1) [4, 6, 7, 15, 16, 17] [(256, 256), (384, 384), (832, 1536), (833, 1537), (834, 1538), (835, 1539), (896, 1984)] rfl rfl (by simp [e1, e2]) (by omega) (by omega)
  · obtain rfl : i = l.length := by omega
    simp -dsimp

@[simp] def h29 : Hts := { merge := fun _ => false, mergeF := fun _ => false, dr := fun id => if id = 9 then [{ mb := [8] }, { mb := [8] }, { mb := [8] }, { mb := [8] }, { mb := [8] }, { cr := true, mb := [8] }, { mb := [8] }, { mb := [8] }, { mn := [512], mb := [8] }, { cr := true, mb := [24] }, { wr := [512] }, {}] else [] }
set_option maxHeartbeats 8000000 in
theorem f29_ok (l : List GAct) (hl : ∀ a, a ∈ l → a.Ok) (hn : l.length ≤ 1000000) : FnR Try.prog 29 [.v (.im l.length (flat l))] (.tup [.agg [.ow 3 1 ((settled l).1).know.length (flat ((settled l).1).know), .ow 38 3 ((settled l).1).tallies.length (flat ((settled l).1).tallies), .ow 40 6 ((settled l).1).lives.length (flat ((settled l).1).lives), .ow 35 8 ((settled l).1).cs.length (flat ((settled l).1).cs)], .v (.int .i64 ((settled l).2))]) := by
  obtain ⟨n1, n2, n3⟩ := endK_is l
  refine FnW.of_AW TryT_ok 0 (fn := Try.f29) (by kernel_rfl) rfl (by kernel_rfl) rfl rfl rfl ?_; refine AW_of h29 TryT_ok (by kernel_rfl) ?_
  simp -dsimp
  refine ACallK_of (f81_ok) ?_
  simp -dsimp
  refine AWh_loop (fun k : Nat => k ≤ endK l) (fun k => mkE [(0, .c (.im l.length (flat l))), (2, .box 128 0), (4, .box 256 0), (5, .c (.int .i64 (roundK l k).2.1)), (6, .c (.bool (roundK l k).2.2))] [(128, .box [.nil, .nil, .nil, .nil]), (256, .box [.arr 640, .arr 641, .arr 642, .arr 643]), (640, .arr 0 3 1 (roundK l k).1.know.length (flat (roundK l k).1.know)), (641, .arr 0 38 3 (roundK l k).1.tallies.length (flat (roundK l k).1.tallies)), (642, .arr 0 40 6 (roundK l k).1.lives.length (flat (roundK l k).1.lives)), (643, .arr 0 35 8 (roundK l k).1.cs.length (flat (roundK l k).1.cs))]) (fun k => endK l - k) 0 (Wk_to [0, 2, 4, 5, 6] [(128, 128), (256, 256), (640, 640), (641, 641), (642, 642), (643, 643)] rfl rfl (by simp [roundK, stateNew])) (by simp) ?_
  rintro k hk
  refine AW_of h29 TryT_ok (by kernel_rfl) ?_
  rcases Nat.lt_or_ge k (endK l) with h1 | h1
  rotate_left
  · obtain rfl : k = endK l := by omega
    simp -dsimp [n2]
    simp [settled]
  have hf := n3 k h1
  have hRO := roundK_Ok hl k
  have hRn := roundK_n l k
  have hkl : k * l.length ≤ 1000001 * 1000000 := Nat.mul_le_mul (by omega) hn
  have hkl' : ((k : Int)) * (l.length : Int) ≤ 1000001000000 := by rw [← Int.natCast_mul]; omega
  have er : roundK l (k + 1) = passK l (roundK l k).1 (roundK l k).2.1 l.length := rfl
  simp -dsimp [hf]
  refine AWh_loop (fun i : Nat => i ≤ l.length) (fun i => mkE [(0, .c (.im l.length (flat l))), (2, .box 128 0), (4, .box 256 0), (5, .c (.int .i64 (passK l (roundK l k).1 (roundK l k).2.1 i).2.1)), (6, .c (.bool (passK l (roundK l k).1 (roundK l k).2.1 i).2.2)), (7, .c (.int .i64 i))] [(128, .box [.nil, .nil, .nil, .nil]), (256, .box [.arr 640, .arr 641, .arr 642, .arr 643]), (640, .arr 0 3 1 (passK l (roundK l k).1 (roundK l k).2.1 i).1.know.length (flat (passK l (roundK l k).1 (roundK l k).2.1 i).1.know)), (641, .arr 0 38 3 (passK l (roundK l k).1 (roundK l k).2.1 i).1.tallies.length (flat (passK l (roundK l k).1 (roundK l k).2.1 i).1.tallies)), (642, .arr 0 40 6 (passK l (roundK l k).1 (roundK l k).2.1 i).1.lives.length (flat (passK l (roundK l k).1 (roundK l k).2.1 i).1.lives)), (643, .arr 0 35 8 (passK l (roundK l k).1 (roundK l k).2.1 i).1.cs.length (flat (passK l (roundK l k).1 (roundK l k).2.1 i).1.cs))]) (fun i => l.length - i) 0 (Wk_to [0, 2, 4, 5, 6, 7] [(128, 128), (256, 256), (640, 640), (641, 641), (642, 642), (643, 643)] rfl rfl (by simp [passK])) (by simp) ?_
  rintro i hi
  have hO := passK_Ok hl hRO (roundK l k).2.1 i hi
  have hpn := passK_n l (roundK l k).1 (roundK l k).2.1 i
  have ep : passK l (roundK l k).1 (roundK l k).2.1 (i + 1) = if (doAct (passK l (roundK l k).1 (roundK l k).2.1 i).1 (nth l i)).2 = 0 then ((doAct (passK l (roundK l k).1 (roundK l k).2.1 i).1 (nth l i)).1, (passK l (roundK l k).1 (roundK l k).2.1 i).2.1 + 1, true) else (passK l (roundK l k).1 (roundK l k).2.1 i) := rfl
  have wi : IntKind.i64.wrap ((i : Int) + 1) = i + 1 := wrap64 (by omega) (by omega)
  have wn : IntKind.i64.wrap ((passK l (roundK l k).1 (roundK l k).2.1 i).2.1 + 1) = (passK l (roundK l k).1 (roundK l k).2.1 i).2.1 + 1 := wrap64 (by omega) (by omega)
  refine AW_of h29 TryT_ok (by kernel_rfl) ?_
  rcases Nat.lt_or_ge i l.length with h2 | h2
  · simp -dsimp [h2, ne_of_lt h2]
    repeat (first | refine ⟨by omega, ?_⟩ | refine ⟨by simp [capMax]; omega, ?_⟩ | refine ⟨⟨by omega, by omega⟩, ?_⟩)
    refine ACallK_of (f26_ok (passK l (roundK l k).1 (roundK l k).2.1 i).1 (nth l i) hO (hl _ (nth_mem h2))) ?_
    by_cases q : (doAct (passK l (roundK l k).1 (roundK l k).2.1 i).1 (nth l i)).2 = 0
    · rw [if_pos q] at ep
      simp -dsimp [q, wi, wn]
      exact Back_of (i + 1) [0, 2, 4, 5, 6, 7] [(128, 128), (256, 256), (640, 1536), (641, 1537), (642, 1538), (643, 1539)] rfl rfl (by simp [ep]) (by omega) (by omega)
    · rw [if_neg q] at ep
      simp -dsimp [q, wi]
      exact Back_of (i + 1) [0, 2, 4, 5, 6, 7] [(128, 128), (256, 256), (640, 640), (641, 641), (642, 642), (643, 643)] rfl rfl (by simp [ep]) (by omega) (by omega)
  · obtain rfl : i = l.length := by omega
    simp -dsimp
    exact Back_of (k + 1) [0, 2, 4, 5, 6] [(128, 128), (256, 256), (640, 640), (641, 641), (642, 642), (643, 643)] rfl rfl (by simp [er]) (by omega) (by omega)

@[simp] def h28 : Hts := { merge := fun _ => false, mergeF := fun _ => false }
set_option maxHeartbeats 8000000 in
theorem f28_ok (l : List GAct) (hl : ∀ a, a ∈ l → a.Ok) (hn : l.length ≤ 1000000) : FnR Try.prog 28 [.v (.im l.length (flat l))] (.tup [.agg [.ow 3 1 ((settled l).1).know.length (flat ((settled l).1).know), .ow 38 3 ((settled l).1).tallies.length (flat ((settled l).1).tallies), .ow 40 6 ((settled l).1).lives.length (flat ((settled l).1).lives), .ow 35 8 ((settled l).1).cs.length (flat ((settled l).1).cs)], .v (.int .i64 ((settled l).2))]) := by
  obtain ⟨n1, n2, n3⟩ := endK_is l
  refine FnW.of_AW TryT_ok 0 (fn := Try.f28) (by kernel_rfl) rfl (by kernel_rfl) rfl rfl rfl ?_; refine AW_of h28 TryT_ok (by kernel_rfl) ?_
  simp -dsimp
  refine ACallK_of (f23_ok) ?_
  simp -dsimp
  refine AWh_loop (fun k : Nat => k ≤ endK l) (fun k => mkE [(0, .c (.im l.length (flat l))), (2, .box 128 0), (4, .box 256 0), (5, .c (.int .i64 (roundK l k).2.1)), (6, .c (.bool (roundK l k).2.2))] [(128, .box [.nil, .nil, .nil, .nil]), (256, .box [.arr 704, .arr 705, .arr 706, .arr 707]), (704, .arr 0 3 1 (roundK l k).1.know.length (flat (roundK l k).1.know)), (705, .arr 0 38 3 (roundK l k).1.tallies.length (flat (roundK l k).1.tallies)), (706, .arr 0 40 6 (roundK l k).1.lives.length (flat (roundK l k).1.lives)), (707, .arr 0 35 8 (roundK l k).1.cs.length (flat (roundK l k).1.cs))]) (fun k => endK l - k) 0 (Wk_to [0, 2, 4, 5, 6] [(128, 128), (256, 256), (704, 704), (705, 705), (706, 706), (707, 707)] rfl rfl (by simp [roundK, stateNew])) (by simp) ?_
  rintro k hk
  refine AW_of h28 TryT_ok (by kernel_rfl) ?_
  rcases Nat.lt_or_ge k (endK l) with h1 | h1
  rotate_left
  · obtain rfl : k = endK l := by omega
    simp -dsimp [n2]
    simp [settled]
  have hf := n3 k h1
  have hRO := roundK_Ok hl k
  have hRn := roundK_n l k
  have hkl : k * l.length ≤ 1000001 * 1000000 := Nat.mul_le_mul (by omega) hn
  have hkl' : ((k : Int)) * (l.length : Int) ≤ 1000001000000 := by rw [← Int.natCast_mul]; omega
  have er : roundK l (k + 1) = passK l (roundK l k).1 (roundK l k).2.1 l.length := rfl
  simp -dsimp [hf]
  refine AWh_loop (fun i : Nat => i ≤ l.length) (fun i => mkE [(0, .c (.im l.length (flat l))), (2, .box 128 0), (4, .box 256 0), (5, .c (.int .i64 (passK l (roundK l k).1 (roundK l k).2.1 i).2.1)), (6, .c (.bool (passK l (roundK l k).1 (roundK l k).2.1 i).2.2)), (13, .c (.im l.length (flat l))), (14, .c (.int .i64 l.length)), (15, .c (.int .i64 i))] [(128, .box [.nil, .nil, .nil, .nil]), (256, .box [.arr 704, .arr 705, .arr 706, .arr 707]), (704, .arr 0 3 1 (passK l (roundK l k).1 (roundK l k).2.1 i).1.know.length (flat (passK l (roundK l k).1 (roundK l k).2.1 i).1.know)), (705, .arr 0 38 3 (passK l (roundK l k).1 (roundK l k).2.1 i).1.tallies.length (flat (passK l (roundK l k).1 (roundK l k).2.1 i).1.tallies)), (706, .arr 0 40 6 (passK l (roundK l k).1 (roundK l k).2.1 i).1.lives.length (flat (passK l (roundK l k).1 (roundK l k).2.1 i).1.lives)), (707, .arr 0 35 8 (passK l (roundK l k).1 (roundK l k).2.1 i).1.cs.length (flat (passK l (roundK l k).1 (roundK l k).2.1 i).1.cs))]) (fun i => l.length - i) 0 (Wk_to [0, 2, 4, 5, 6, 13, 14, 15] [(128, 128), (256, 256), (704, 704), (705, 705), (706, 706), (707, 707)] rfl rfl (by simp [passK])) (by simp) ?_
  rintro i hi
  have hO := passK_Ok hl hRO (roundK l k).2.1 i hi
  have hpn := passK_n l (roundK l k).1 (roundK l k).2.1 i
  have ep : passK l (roundK l k).1 (roundK l k).2.1 (i + 1) = if (doAct (passK l (roundK l k).1 (roundK l k).2.1 i).1 (nth l i)).2 = 0 then ((doAct (passK l (roundK l k).1 (roundK l k).2.1 i).1 (nth l i)).1, (passK l (roundK l k).1 (roundK l k).2.1 i).2.1 + 1, true) else (passK l (roundK l k).1 (roundK l k).2.1 i) := rfl
  have wi : IntKind.i64.wrap ((i : Int) + 1) = i + 1 := wrap64 (by omega) (by omega)
  have wn : IntKind.i64.wrap ((passK l (roundK l k).1 (roundK l k).2.1 i).2.1 + 1) = (passK l (roundK l k).1 (roundK l k).2.1 i).2.1 + 1 := wrap64 (by omega) (by omega)
  refine AW_of h28 TryT_ok (by kernel_rfl) ?_
  rcases Nat.lt_or_ge i l.length with h2 | h2
  · simp -dsimp [h2, ne_of_lt h2]
    repeat (first | refine ⟨by omega, ?_⟩ | refine ⟨by simp [capMax]; omega, ?_⟩ | refine ⟨⟨by omega, by omega⟩, ?_⟩)
    refine ACallK_of (f25_ok (passK l (roundK l k).1 (roundK l k).2.1 i).1 (nth l i) hO (hl _ (nth_mem h2))) ?_
    by_cases q : (doAct (passK l (roundK l k).1 (roundK l k).2.1 i).1 (nth l i)).2 = 0
    · rw [if_pos q] at ep
      simp -dsimp [q, wi, wn]
      exact Back_of (i + 1) [0, 2, 4, 5, 6, 13, 14, 15] [(128, 128), (256, 256), (704, 1408), (705, 1409), (706, 1410), (707, 1411)] rfl rfl (by simp [ep]) (by omega) (by omega)
    · rw [if_neg q] at ep
      simp -dsimp [q, wi]
      exact Back_of (i + 1) [0, 2, 4, 5, 6, 13, 14, 15] [(128, 128), (256, 256), (704, 704), (705, 705), (706, 706), (707, 707)] rfl rfl (by simp [ep]) (by omega) (by omega)
  · obtain rfl : i = l.length := by omega
    simp -dsimp
    exact Back_of (k + 1) [0, 2, 4, 5, 6] [(128, 128), (256, 256), (704, 704), (705, 705), (706, 706), (707, 707)] rfl rfl (by simp [er]) (by omega) (by omega)
end Am
namespace Am
open Go Go.Proofs
open Cel (cells)
set_option maxRecDepth 100000
set_option linter.unusedSimpArgs false
set_option linter.unusedVariables false

def get3 (r : Int) (p : GState × GState × GState) : GState := if r = 0 then p.1 else if r = 1 then p.2.1 else p.2.2
def put3 (r : Int) (p : GState × GState × GState) (x : GState) : GState × GState × GState := if r = 0 then (x, p.2.1, p.2.2) else if r = 1 then (p.1, x, p.2.2) else (p.1, p.2.1, x)
structure AS where
  st : GState × GState × GState
  out : List GAct
  c : GCur
def asR (a : AS) : Int × GCur := curN a.c 3
def asO (a : AS) : Int × GCur := curN (asR a).2 3
def asSt (a : AS) : GState × GState × GState := if ((asO a).1 == 0) = true then put3 (asR a).1 a.st (doK a.out (get3 (asR a).1 a.st) a.out.length) else a.st
def asE (a : AS) : GEdit × GCur := editD (asO a).2
def asA (a : AS) : GAct × Int := actOf (get3 (asR a).1 (asSt a)) (asR a).1 (timeOf (get3 (asR a).1 (asSt a)) + 1) (asE a).1
def asN (a : AS) : AS := if (asA a).2 = 0 then ⟨put3 (asR a).1 (asSt a) (doAct (get3 (asR a).1 (asSt a)) (asA a).1).1, a.out ++ [(asA a).1], (asE a).2⟩ else ⟨asSt a, a.out, (asE a).2⟩
def actsK (c : GCur) : Nat → AS
  | 0 => ⟨(stateNew, stateNew, stateNew), [], c⟩
  | i + 1 => asN (actsK c i)
structure ASok (a : AS) (n : Nat) : Prop where
  s0 : SOK a.st.1
  s1 : SOK a.st.2.1
  s2 : SOK a.st.2.2
  o : ∀ x, x ∈ a.out → x.Ok
  n : a.out.length ≤ n
  c : a.c.Ok
theorem doK_sok {l : List GAct} {s : GState} (h : SOK s) : ∀ i, SOK (doK l s i)
  | 0 => h
  | i + 1 => sok_of (doAct_sok (of_sok (doK_sok h i)))
theorem get3_sok {p : GState × GState × GState} (h0 : SOK p.1) (h1 : SOK p.2.1) (h2 : SOK p.2.2) (r : Int) : SOK (get3 r p) := by
  unfold get3
  split
  · exact h0
  split
  · exact h1
  · exact h2
theorem put3_sok {p : GState × GState × GState} (h0 : SOK p.1) (h1 : SOK p.2.1) (h2 : SOK p.2.2) (r : Int) {x : GState} (hx : SOK x) : SOK (put3 r p x).1 ∧ SOK (put3 r p x).2.1 ∧ SOK (put3 r p x).2.2 := by
  unfold put3
  split
  · exact ⟨hx, h1, h2⟩
  split
  · exact ⟨h0, hx, h2⟩
  · exact ⟨h0, h1, hx⟩
theorem asN_ok {a : AS} {n : Nat} (h : ASok a n) : ASok (asN a) (n + 1) := by
  have hS : SOK (asSt a).1 ∧ SOK (asSt a).2.1 ∧ SOK (asSt a).2.2 := by
    unfold asSt
    split
    · exact put3_sok h.s0 h.s1 h.s2 _ (doK_sok (get3_sok h.s0 h.s1 h.s2 _) _)
    · exact ⟨h.s0, h.s1, h.s2⟩
  have hX := get3_sok hS.1 hS.2.1 hS.2.2 (asR a).1
  have hc : (asE a).2.Ok := editD_ok (curN_ok (curN_ok h.c _) _)
  obtain ⟨g1, g2, g3, g4, g5⟩ := editD_good (asO a).2
  have hA : (asA a).1.Ok := actOf_ok (sok_Ok hX) (by show (editD (asO a).2).1.obj.size ≤ _; omega) (by show (editD (asO a).2).1.key.size ≤ _; omega)
  have hn := h.n
  unfold asN
  split
  · obtain ⟨p0, p1, p2⟩ := put3_sok hS.1 hS.2.1 hS.2.2 (asR a).1 (sok_of (doAct_sok (a := (asA a).1) (of_sok hX)))
    refine ⟨p0, p1, p2, fun x hx => ?_, by simp only [List.length_append, List.length_singleton]; omega, hc⟩
    rcases List.mem_append.1 hx with hx | hx
    · exact h.o x hx
    · rw [List.mem_singleton.1 hx]; exact hA
  · exact ⟨hS.1, hS.2.1, hS.2.2, h.o, by show a.out.length ≤ n + 1; omega, hc⟩
theorem actsK_ok {c : GCur} (h : c.Ok) : ∀ i, ASok (actsK c i) i
  | 0 => ⟨stateNew_sok, stateNew_sok, stateNew_sok, by simp [actsK], by simp [actsK], h⟩
  | i + 1 => asN_ok (actsK_ok h i)

@[simp] def h80 : Hts := { merge := fun _ => false, mergeF := fun _ => false, lend := fun f => if f = 44 || f = 42 || f = 66 then [.box []] else [], dr := fun id => if id = 14 then [{ mn := [640000], mb := [58, 61, 12] }, { mn := [640000], mb := [58, 61, 12] }, { mn := [640000], mb := [58, 61, 12] }, { mn := [640000], mb := [58, 61, 12] }, { mn := [640000], mb := [58, 61, 12] }, { mb := [12] }, { mb := [12] }, { mb := [12] }, { mb := [12] }, { cr := true, mb := [12] }, { mn := [640000], mb := [61, 12] }, { mb := [58, 12] }, { wr := [640000], cr := true, mb := [12] }, { cr := true, mb := [12] }, { mb := [12] }, { mb := [12] }, { mn := [768], mb := [12] }, { mn := [640000], cr := true, mb := [58, 61, 62] }, { wr := [768] }, {}] else if id = 16 then [{ mb := [14] }, { mb := [14] }, { mb := [14] }, { mb := [14] }, { mb := [14] }, { cr := true, mb := [14] }, { mb := [14] }, { mb := [14] }, { mn := [896], mb := [14] }, { cr := true, mb := [73] }, { wr := [896] }, {}] else [] }
set_option maxHeartbeats 16000000 in
theorem f80_ok (c : GCur) (hc : c.Ok) (n : Nat) (hn : n ≤ 1000) : FnW Try.prog 80 [.ptr [.im c.b.length (flat c.b), .int .i64 c.i, .int .i64 c.h], .v (.int .i64 n)] (.v (.ow 54 10 ((actsK c n).out).length (flatO ((actsK c n).out)))) [.ptr [.im ((actsK c n).c).b.length (flat ((actsK c n).c).b), .int .i64 ((actsK c n).c).i, .int .i64 ((actsK c n).c).h], .any] := by
  refine FnW.of_AW TryT_ok 1 (fn := Try.f80) (by kernel_rfl) rfl (by kernel_rfl) rfl rfl rfl ?_; refine AW_of h80 TryT_ok (by kernel_rfl) ?_
  simp -dsimp
  refine AWh_loop (fun i : Nat => i ≤ 3) (fun i => mkE [(0, .box 640000 0), (1, .c (.int .i64 n)), (5, .arr 320), (6, .c (.int .i64 i))] [(640000, .box [.c (.im c.b.length (flat c.b)), .c (.int .i64 c.i), .c (.int .i64 c.h)]), (320, .arr 0 29 4 i (List.replicate i [.ow 3 1 stateNew.know.length (flat stateNew.know), .ow 38 3 stateNew.tallies.length (flat stateNew.tallies), .ow 40 6 stateNew.lives.length (flat stateNew.lives), .ow 35 8 stateNew.cs.length (flat stateNew.cs)]).flatten)]) (fun i => 3 - i) 0 (Wk_to [0, 1, 5, 6] [(640000, 640000), (320, 1024)] rfl rfl (by simp)) (by simp) ?_
  rintro i hi
  refine AW_of h80 TryT_ok (by kernel_rfl) ?_
  have hi4 : i = 0 ∨ i = 1 ∨ i = 2 ∨ i = 3 := by omega
  rcases hi4 with rfl | rfl | rfl | rfl
  · simp -dsimp
    refine ACallK_of (f81_ok) ?_
    simp -dsimp
    refine ⟨by simp [capMax], ?_⟩
    exact Back_of 1 [0, 1, 5, 6] [(640000, 640000), (320, 1536)] rfl rfl (by simp [List.replicate, show IntKind.i64.wrap 1 = 1 from by decide]) (by omega) (by omega)
  · simp -dsimp
    refine ACallK_of (f81_ok) ?_
    simp -dsimp
    refine ⟨by simp [capMax], ?_⟩
    exact Back_of 2 [0, 1, 5, 6] [(640000, 640000), (320, 1536)] rfl rfl (by simp [List.replicate, show IntKind.i64.wrap 2 = 2 from by decide]) (by omega) (by omega)
  · simp -dsimp
    refine ACallK_of (f81_ok) ?_
    simp -dsimp
    refine ⟨by simp [capMax], ?_⟩
    exact Back_of 3 [0, 1, 5, 6] [(640000, 640000), (320, 1536)] rfl rfl (by simp [List.replicate, show IntKind.i64.wrap 3 = 3 from by decide]) (by omega) (by omega)
  simp -dsimp [List.replicate]
  refine AWh_loop (fun i : Nat => i ≤ n) (fun i : Nat => mkE [(0, .box 640000 0), (1, .c (.int .i64 n)), (5, .arr 320), (7, .arr 448), (8, .c (.int .i64 i))] [(640000, .box [.c (.im ((actsK c i).c).b.length (flat ((actsK c i).c).b)), .c (.int .i64 ((actsK c i).c).i), .c (.int .i64 ((actsK c i).c).h)]), (320, .arr 0 29 4 3 [.ow 3 1 ((actsK c i).st.1).know.length (flat ((actsK c i).st.1).know), .ow 38 3 ((actsK c i).st.1).tallies.length (flat ((actsK c i).st.1).tallies), .ow 40 6 ((actsK c i).st.1).lives.length (flat ((actsK c i).st.1).lives), .ow 35 8 ((actsK c i).st.1).cs.length (flat ((actsK c i).st.1).cs), .ow 3 1 ((actsK c i).st.2.1).know.length (flat ((actsK c i).st.2.1).know), .ow 38 3 ((actsK c i).st.2.1).tallies.length (flat ((actsK c i).st.2.1).tallies), .ow 40 6 ((actsK c i).st.2.1).lives.length (flat ((actsK c i).st.2.1).lives), .ow 35 8 ((actsK c i).st.2.1).cs.length (flat ((actsK c i).st.2.1).cs), .ow 3 1 ((actsK c i).st.2.2).know.length (flat ((actsK c i).st.2.2).know), .ow 38 3 ((actsK c i).st.2.2).tallies.length (flat ((actsK c i).st.2.2).tallies), .ow 40 6 ((actsK c i).st.2.2).lives.length (flat ((actsK c i).st.2.2).lives), .ow 35 8 ((actsK c i).st.2.2).cs.length (flat ((actsK c i).st.2.2).cs)]), (448, .arr 0 54 10 (actsK c i).out.length (flatO (actsK c i).out))]) (fun i => n - i) 0 (Wk_to [0, 1, 5, 7, 8] [(640000, 640000), (320, 320), (448, 1600)] rfl rfl (by simp [actsK])) (by simp) ?_
  rintro i hi
  have hA := actsK_ok hc i
  have eN : actsK c (i + 1) = asN (actsK c i) := rfl
  refine AW_of h80 TryT_ok (by kernel_rfl) ?_
  rcases Nat.lt_or_ge i n with h1 | h1
  rotate_left
  · obtain rfl : i = n := by omega
    simp -dsimp
  have wi : IntKind.i64.wrap ((i : Int) + 1) = i + 1 := wrap64 (by omega) (by omega)
  generalize actsK c i = a at *
  have hN := asN_ok hA
  obtain ⟨⟨p0, p1, p2⟩, out, c1⟩ := a
  obtain ⟨k0, k1, k2, ko, kn, kc⟩ := hA
  simp only at k0 k1 k2 ko kn kc
  have hb := curN_bd c1 (n := 3) (by decide)
  have c2 : (curN c1 3).2.Ok := curN_ok kc _
  have c3 : (curN (curN c1 3).2 3).2.Ok := curN_ok c2 _
  obtain ⟨g1, g2, g3, g4, g5⟩ := editD_good (curN (curN c1 3).2 3).2
  simp -dsimp [h1]
  refine ACallW_args (by intro us; simp -dsimp; exact ⟨rfl, rfl, rfl⟩) ?_
  refine ACallC_of (fun us => f44_ok c1 kc 3) (by intro us; simp -dsimp; exact ⟨rfl, rfl⟩) ?_
  simp -dsimp
  refine ACallW_args (by intro us; simp -dsimp; exact ⟨rfl, rfl, rfl⟩) ?_
  refine ACallC_of (fun us => f42_ok (curN c1 3).2 c2 3) (by intro us; simp -dsimp; exact ⟨rfl, rfl⟩) ?_
  have hr3 : (curN c1 3).1 = 0 ∨ (curN c1 3).1 = 1 ∨ (curN c1 3).1 = 2 := by omega
  rcases hr3 with e | e | e
  · cases q : ((curN (curN c1 3).2 3).1 == 0)
    · have hX : SOK p0 := k0
      have hXO := sok_Ok hX
      have hXO2 := hXO
      simp only [GState.Ok] at hXO2
      have ht := timeOf_bd hX
      have wt : IntKind.i64.wrap (timeOf p0 + 1) = timeOf p0 + 1 := wrap64 (by omega) (by omega)
      simp -dsimp [e]
      repeat (first | refine ⟨by omega, ?_⟩ | refine ⟨by simp [capMax]; omega, ?_⟩ | refine ⟨⟨by omega, by omega⟩, ?_⟩)
      refine ACallK_of (f65_ok p0 (by omega)) ?_
      simp -dsimp [wt, e]
      repeat (first | refine ⟨by omega, ?_⟩ | refine ⟨by simp [capMax]; omega, ?_⟩ | refine ⟨⟨by omega, by omega⟩, ?_⟩)
      refine ACallW_args (by intro us; simp -dsimp; exact ⟨rfl, rfl, rfl⟩) ?_
      refine ACallC_of (fun us => f66_ok (curN (curN c1 3).2 3).2 c3) (by intro us; simp -dsimp; exact ⟨rfl, rfl⟩) ?_
      simp -dsimp [e]
      repeat (first | refine ⟨by omega, ?_⟩ | refine ⟨by simp [capMax]; omega, ?_⟩ | refine ⟨⟨by omega, by omega⟩, ?_⟩)
      refine ACallK_of (f64_ok p0 0 (timeOf p0 + 1) (editD (curN (curN c1 3).2 3).2).1 hXO (by omega) (by omega) (by omega)) ?_
      have hAo : (actOf p0 0 (timeOf p0 + 1) (editD (curN (curN c1 3).2 3).2).1).1.Ok := actOf_ok hXO (by omega) (by omega)
      by_cases qa : (actOf p0 0 (timeOf p0 + 1) (editD (curN (curN c1 3).2 3).2).1).2 = 0
      · have eM : asN ⟨(p0, p1, p2), out, c1⟩ = ⟨((doAct p0 (actOf p0 0 (timeOf p0 + 1) (editD (curN (curN c1 3).2 3).2).1).1).1, p1, p2), out ++ [(actOf p0 0 (timeOf p0 + 1) (editD (curN (curN c1 3).2 3).2).1).1], (editD (curN (curN c1 3).2 3).2).2⟩ := by
          simp [asN, asA, asSt, asO, asR, asE, get3, put3, e, q, qa]
        generalize actOf p0 0 (timeOf p0 + 1) (editD (curN (curN c1 3).2 3).2).1 = A at *
        simp -dsimp [qa, e]
        repeat (first | refine ⟨by omega, ?_⟩ | refine ⟨by simp [capMax]; omega, ?_⟩ | refine ⟨⟨by omega, by omega⟩, ?_⟩)
        refine ACallK_of (f26_ok p0 A.1 hXO hAo) ?_
        simp -dsimp [e, wi]
        repeat (first | refine ⟨by omega, ?_⟩ | refine ⟨by simp [capMax]; omega, ?_⟩ | refine ⟨⟨by omega, by omega⟩, ?_⟩)
        exact Back_of (i + 1) [0, 1, 5, 7, 8] [(640000, 640000), (320, 320), (448, 5312)] rfl rfl (by simp [eN, eM]) (by omega) (by omega)
      · have eM : asN ⟨(p0, p1, p2), out, c1⟩ = ⟨(p0, p1, p2), out, (editD (curN (curN c1 3).2 3).2).2⟩ := by
          simp [asN, asA, asSt, asO, asR, asE, get3, put3, e, q, qa]
        generalize actOf p0 0 (timeOf p0 + 1) (editD (curN (curN c1 3).2 3).2).1 = A at *
        simp -dsimp [qa, e, wi]
        repeat (first | refine ⟨by omega, ?_⟩ | refine ⟨by simp [capMax]; omega, ?_⟩ | refine ⟨⟨by omega, by omega⟩, ?_⟩)
        exact Back_of (i + 1) [0, 1, 5, 7, 8] [(640000, 640000), (320, 320), (448, 448)] rfl rfl (by simp [eN, eM]) (by omega) (by omega)
    · have hX : SOK (doK out p0 out.length) := (doK_sok k0 out.length)
      have hXO := sok_Ok hX
      have hXO2 := hXO
      simp only [GState.Ok] at hXO2
      have ht := timeOf_bd hX
      have wt : IntKind.i64.wrap (timeOf (doK out p0 out.length) + 1) = timeOf (doK out p0 out.length) + 1 := wrap64 (by omega) (by omega)
      simp -dsimp [e]
      repeat (first | refine ⟨by omega, ?_⟩ | refine ⟨by simp [capMax]; omega, ?_⟩ | refine ⟨⟨by omega, by omega⟩, ?_⟩)
      refine ACallK_of (f35_ok p0 out (sok_Ok k0) ko (by omega)) ?_
      simp -dsimp [e]
      repeat (first | refine ⟨by omega, ?_⟩ | refine ⟨by simp [capMax]; omega, ?_⟩ | refine ⟨⟨by omega, by omega⟩, ?_⟩)
      refine ACallK_of (f65_ok (doK out p0 out.length) (by omega)) ?_
      simp -dsimp [wt, e]
      repeat (first | refine ⟨by omega, ?_⟩ | refine ⟨by simp [capMax]; omega, ?_⟩ | refine ⟨⟨by omega, by omega⟩, ?_⟩)
      refine ACallW_args (by intro us; simp -dsimp; exact ⟨rfl, rfl, rfl⟩) ?_
      refine ACallC_of (fun us => f66_ok (curN (curN c1 3).2 3).2 c3) (by intro us; simp -dsimp; exact ⟨rfl, rfl⟩) ?_
      simp -dsimp [e]
      repeat (first | refine ⟨by omega, ?_⟩ | refine ⟨by simp [capMax]; omega, ?_⟩ | refine ⟨⟨by omega, by omega⟩, ?_⟩)
      refine ACallK_of (f64_ok (doK out p0 out.length) 0 (timeOf (doK out p0 out.length) + 1) (editD (curN (curN c1 3).2 3).2).1 hXO (by omega) (by omega) (by omega)) ?_
      have hAo : (actOf (doK out p0 out.length) 0 (timeOf (doK out p0 out.length) + 1) (editD (curN (curN c1 3).2 3).2).1).1.Ok := actOf_ok hXO (by omega) (by omega)
      by_cases qa : (actOf (doK out p0 out.length) 0 (timeOf (doK out p0 out.length) + 1) (editD (curN (curN c1 3).2 3).2).1).2 = 0
      · have eM : asN ⟨(p0, p1, p2), out, c1⟩ = ⟨((doAct (doK out p0 out.length) (actOf (doK out p0 out.length) 0 (timeOf (doK out p0 out.length) + 1) (editD (curN (curN c1 3).2 3).2).1).1).1, p1, p2), out ++ [(actOf (doK out p0 out.length) 0 (timeOf (doK out p0 out.length) + 1) (editD (curN (curN c1 3).2 3).2).1).1], (editD (curN (curN c1 3).2 3).2).2⟩ := by
          simp [asN, asA, asSt, asO, asR, asE, get3, put3, e, q, qa]
        generalize actOf (doK out p0 out.length) 0 (timeOf (doK out p0 out.length) + 1) (editD (curN (curN c1 3).2 3).2).1 = A at *
        simp -dsimp [qa, e]
        repeat (first | refine ⟨by omega, ?_⟩ | refine ⟨by simp [capMax]; omega, ?_⟩ | refine ⟨⟨by omega, by omega⟩, ?_⟩)
        refine ACallK_of (f26_ok (doK out p0 out.length) A.1 hXO hAo) ?_
        simp -dsimp [e, wi]
        repeat (first | refine ⟨by omega, ?_⟩ | refine ⟨by simp [capMax]; omega, ?_⟩ | refine ⟨⟨by omega, by omega⟩, ?_⟩)
        exact Back_of (i + 1) [0, 1, 5, 7, 8] [(640000, 640000), (320, 320), (448, 5312)] rfl rfl (by simp [eN, eM]) (by omega) (by omega)
      · have eM : asN ⟨(p0, p1, p2), out, c1⟩ = ⟨((doK out p0 out.length), p1, p2), out, (editD (curN (curN c1 3).2 3).2).2⟩ := by
          simp [asN, asA, asSt, asO, asR, asE, get3, put3, e, q, qa]
        generalize actOf (doK out p0 out.length) 0 (timeOf (doK out p0 out.length) + 1) (editD (curN (curN c1 3).2 3).2).1 = A at *
        simp -dsimp [qa, e, wi]
        repeat (first | refine ⟨by omega, ?_⟩ | refine ⟨by simp [capMax]; omega, ?_⟩ | refine ⟨⟨by omega, by omega⟩, ?_⟩)
        exact Back_of (i + 1) [0, 1, 5, 7, 8] [(640000, 640000), (320, 320), (448, 448)] rfl rfl (by simp [eN, eM]) (by omega) (by omega)
  · cases q : ((curN (curN c1 3).2 3).1 == 0)
    · have hX : SOK p1 := k1
      have hXO := sok_Ok hX
      have hXO2 := hXO
      simp only [GState.Ok] at hXO2
      have ht := timeOf_bd hX
      have wt : IntKind.i64.wrap (timeOf p1 + 1) = timeOf p1 + 1 := wrap64 (by omega) (by omega)
      simp -dsimp [e]
      repeat (first | refine ⟨by omega, ?_⟩ | refine ⟨by simp [capMax]; omega, ?_⟩ | refine ⟨⟨by omega, by omega⟩, ?_⟩)
      refine ACallK_of (f65_ok p1 (by omega)) ?_
      simp -dsimp [wt, e]
      repeat (first | refine ⟨by omega, ?_⟩ | refine ⟨by simp [capMax]; omega, ?_⟩ | refine ⟨⟨by omega, by omega⟩, ?_⟩)
      refine ACallW_args (by intro us; simp -dsimp; exact ⟨rfl, rfl, rfl⟩) ?_
      refine ACallC_of (fun us => f66_ok (curN (curN c1 3).2 3).2 c3) (by intro us; simp -dsimp; exact ⟨rfl, rfl⟩) ?_
      simp -dsimp [e]
      repeat (first | refine ⟨by omega, ?_⟩ | refine ⟨by simp [capMax]; omega, ?_⟩ | refine ⟨⟨by omega, by omega⟩, ?_⟩)
      refine ACallK_of (f64_ok p1 1 (timeOf p1 + 1) (editD (curN (curN c1 3).2 3).2).1 hXO (by omega) (by omega) (by omega)) ?_
      have hAo : (actOf p1 1 (timeOf p1 + 1) (editD (curN (curN c1 3).2 3).2).1).1.Ok := actOf_ok hXO (by omega) (by omega)
      by_cases qa : (actOf p1 1 (timeOf p1 + 1) (editD (curN (curN c1 3).2 3).2).1).2 = 0
      · have eM : asN ⟨(p0, p1, p2), out, c1⟩ = ⟨(p0, (doAct p1 (actOf p1 1 (timeOf p1 + 1) (editD (curN (curN c1 3).2 3).2).1).1).1, p2), out ++ [(actOf p1 1 (timeOf p1 + 1) (editD (curN (curN c1 3).2 3).2).1).1], (editD (curN (curN c1 3).2 3).2).2⟩ := by
          simp [asN, asA, asSt, asO, asR, asE, get3, put3, e, q, qa]
        generalize actOf p1 1 (timeOf p1 + 1) (editD (curN (curN c1 3).2 3).2).1 = A at *
        simp -dsimp [qa, e]
        repeat (first | refine ⟨by omega, ?_⟩ | refine ⟨by simp [capMax]; omega, ?_⟩ | refine ⟨⟨by omega, by omega⟩, ?_⟩)
        refine ACallK_of (f26_ok p1 A.1 hXO hAo) ?_
        simp -dsimp [e, wi]
        repeat (first | refine ⟨by omega, ?_⟩ | refine ⟨by simp [capMax]; omega, ?_⟩ | refine ⟨⟨by omega, by omega⟩, ?_⟩)
        exact Back_of (i + 1) [0, 1, 5, 7, 8] [(640000, 640000), (320, 320), (448, 5312)] rfl rfl (by simp [eN, eM]) (by omega) (by omega)
      · have eM : asN ⟨(p0, p1, p2), out, c1⟩ = ⟨(p0, p1, p2), out, (editD (curN (curN c1 3).2 3).2).2⟩ := by
          simp [asN, asA, asSt, asO, asR, asE, get3, put3, e, q, qa]
        generalize actOf p1 1 (timeOf p1 + 1) (editD (curN (curN c1 3).2 3).2).1 = A at *
        simp -dsimp [qa, e, wi]
        repeat (first | refine ⟨by omega, ?_⟩ | refine ⟨by simp [capMax]; omega, ?_⟩ | refine ⟨⟨by omega, by omega⟩, ?_⟩)
        exact Back_of (i + 1) [0, 1, 5, 7, 8] [(640000, 640000), (320, 320), (448, 448)] rfl rfl (by simp [eN, eM]) (by omega) (by omega)
    · have hX : SOK (doK out p1 out.length) := (doK_sok k1 out.length)
      have hXO := sok_Ok hX
      have hXO2 := hXO
      simp only [GState.Ok] at hXO2
      have ht := timeOf_bd hX
      have wt : IntKind.i64.wrap (timeOf (doK out p1 out.length) + 1) = timeOf (doK out p1 out.length) + 1 := wrap64 (by omega) (by omega)
      simp -dsimp [e]
      repeat (first | refine ⟨by omega, ?_⟩ | refine ⟨by simp [capMax]; omega, ?_⟩ | refine ⟨⟨by omega, by omega⟩, ?_⟩)
      refine ACallK_of (f35_ok p1 out (sok_Ok k1) ko (by omega)) ?_
      simp -dsimp [e]
      repeat (first | refine ⟨by omega, ?_⟩ | refine ⟨by simp [capMax]; omega, ?_⟩ | refine ⟨⟨by omega, by omega⟩, ?_⟩)
      refine ACallK_of (f65_ok (doK out p1 out.length) (by omega)) ?_
      simp -dsimp [wt, e]
      repeat (first | refine ⟨by omega, ?_⟩ | refine ⟨by simp [capMax]; omega, ?_⟩ | refine ⟨⟨by omega, by omega⟩, ?_⟩)
      refine ACallW_args (by intro us; simp -dsimp; exact ⟨rfl, rfl, rfl⟩) ?_
      refine ACallC_of (fun us => f66_ok (curN (curN c1 3).2 3).2 c3) (by intro us; simp -dsimp; exact ⟨rfl, rfl⟩) ?_
      simp -dsimp [e]
      repeat (first | refine ⟨by omega, ?_⟩ | refine ⟨by simp [capMax]; omega, ?_⟩ | refine ⟨⟨by omega, by omega⟩, ?_⟩)
      refine ACallK_of (f64_ok (doK out p1 out.length) 1 (timeOf (doK out p1 out.length) + 1) (editD (curN (curN c1 3).2 3).2).1 hXO (by omega) (by omega) (by omega)) ?_
      have hAo : (actOf (doK out p1 out.length) 1 (timeOf (doK out p1 out.length) + 1) (editD (curN (curN c1 3).2 3).2).1).1.Ok := actOf_ok hXO (by omega) (by omega)
      by_cases qa : (actOf (doK out p1 out.length) 1 (timeOf (doK out p1 out.length) + 1) (editD (curN (curN c1 3).2 3).2).1).2 = 0
      · have eM : asN ⟨(p0, p1, p2), out, c1⟩ = ⟨(p0, (doAct (doK out p1 out.length) (actOf (doK out p1 out.length) 1 (timeOf (doK out p1 out.length) + 1) (editD (curN (curN c1 3).2 3).2).1).1).1, p2), out ++ [(actOf (doK out p1 out.length) 1 (timeOf (doK out p1 out.length) + 1) (editD (curN (curN c1 3).2 3).2).1).1], (editD (curN (curN c1 3).2 3).2).2⟩ := by
          simp [asN, asA, asSt, asO, asR, asE, get3, put3, e, q, qa]
        generalize actOf (doK out p1 out.length) 1 (timeOf (doK out p1 out.length) + 1) (editD (curN (curN c1 3).2 3).2).1 = A at *
        simp -dsimp [qa, e]
        repeat (first | refine ⟨by omega, ?_⟩ | refine ⟨by simp [capMax]; omega, ?_⟩ | refine ⟨⟨by omega, by omega⟩, ?_⟩)
        refine ACallK_of (f26_ok (doK out p1 out.length) A.1 hXO hAo) ?_
        simp -dsimp [e, wi]
        repeat (first | refine ⟨by omega, ?_⟩ | refine ⟨by simp [capMax]; omega, ?_⟩ | refine ⟨⟨by omega, by omega⟩, ?_⟩)
        exact Back_of (i + 1) [0, 1, 5, 7, 8] [(640000, 640000), (320, 320), (448, 5312)] rfl rfl (by simp [eN, eM]) (by omega) (by omega)
      · have eM : asN ⟨(p0, p1, p2), out, c1⟩ = ⟨(p0, (doK out p1 out.length), p2), out, (editD (curN (curN c1 3).2 3).2).2⟩ := by
          simp [asN, asA, asSt, asO, asR, asE, get3, put3, e, q, qa]
        generalize actOf (doK out p1 out.length) 1 (timeOf (doK out p1 out.length) + 1) (editD (curN (curN c1 3).2 3).2).1 = A at *
        simp -dsimp [qa, e, wi]
        repeat (first | refine ⟨by omega, ?_⟩ | refine ⟨by simp [capMax]; omega, ?_⟩ | refine ⟨⟨by omega, by omega⟩, ?_⟩)
        exact Back_of (i + 1) [0, 1, 5, 7, 8] [(640000, 640000), (320, 320), (448, 448)] rfl rfl (by simp [eN, eM]) (by omega) (by omega)
  · cases q : ((curN (curN c1 3).2 3).1 == 0)
    · have hX : SOK p2 := k2
      have hXO := sok_Ok hX
      have hXO2 := hXO
      simp only [GState.Ok] at hXO2
      have ht := timeOf_bd hX
      have wt : IntKind.i64.wrap (timeOf p2 + 1) = timeOf p2 + 1 := wrap64 (by omega) (by omega)
      simp -dsimp [e]
      repeat (first | refine ⟨by omega, ?_⟩ | refine ⟨by simp [capMax]; omega, ?_⟩ | refine ⟨⟨by omega, by omega⟩, ?_⟩)
      refine ACallK_of (f65_ok p2 (by omega)) ?_
      simp -dsimp [wt, e]
      repeat (first | refine ⟨by omega, ?_⟩ | refine ⟨by simp [capMax]; omega, ?_⟩ | refine ⟨⟨by omega, by omega⟩, ?_⟩)
      refine ACallW_args (by intro us; simp -dsimp; exact ⟨rfl, rfl, rfl⟩) ?_
      refine ACallC_of (fun us => f66_ok (curN (curN c1 3).2 3).2 c3) (by intro us; simp -dsimp; exact ⟨rfl, rfl⟩) ?_
      simp -dsimp [e]
      repeat (first | refine ⟨by omega, ?_⟩ | refine ⟨by simp [capMax]; omega, ?_⟩ | refine ⟨⟨by omega, by omega⟩, ?_⟩)
      refine ACallK_of (f64_ok p2 2 (timeOf p2 + 1) (editD (curN (curN c1 3).2 3).2).1 hXO (by omega) (by omega) (by omega)) ?_
      have hAo : (actOf p2 2 (timeOf p2 + 1) (editD (curN (curN c1 3).2 3).2).1).1.Ok := actOf_ok hXO (by omega) (by omega)
      by_cases qa : (actOf p2 2 (timeOf p2 + 1) (editD (curN (curN c1 3).2 3).2).1).2 = 0
      · have eM : asN ⟨(p0, p1, p2), out, c1⟩ = ⟨(p0, p1, (doAct p2 (actOf p2 2 (timeOf p2 + 1) (editD (curN (curN c1 3).2 3).2).1).1).1), out ++ [(actOf p2 2 (timeOf p2 + 1) (editD (curN (curN c1 3).2 3).2).1).1], (editD (curN (curN c1 3).2 3).2).2⟩ := by
          simp [asN, asA, asSt, asO, asR, asE, get3, put3, e, q, qa]
        generalize actOf p2 2 (timeOf p2 + 1) (editD (curN (curN c1 3).2 3).2).1 = A at *
        simp -dsimp [qa, e]
        repeat (first | refine ⟨by omega, ?_⟩ | refine ⟨by simp [capMax]; omega, ?_⟩ | refine ⟨⟨by omega, by omega⟩, ?_⟩)
        refine ACallK_of (f26_ok p2 A.1 hXO hAo) ?_
        simp -dsimp [e, wi]
        repeat (first | refine ⟨by omega, ?_⟩ | refine ⟨by simp [capMax]; omega, ?_⟩ | refine ⟨⟨by omega, by omega⟩, ?_⟩)
        exact Back_of (i + 1) [0, 1, 5, 7, 8] [(640000, 640000), (320, 320), (448, 5312)] rfl rfl (by simp [eN, eM]) (by omega) (by omega)
      · have eM : asN ⟨(p0, p1, p2), out, c1⟩ = ⟨(p0, p1, p2), out, (editD (curN (curN c1 3).2 3).2).2⟩ := by
          simp [asN, asA, asSt, asO, asR, asE, get3, put3, e, q, qa]
        generalize actOf p2 2 (timeOf p2 + 1) (editD (curN (curN c1 3).2 3).2).1 = A at *
        simp -dsimp [qa, e, wi]
        repeat (first | refine ⟨by omega, ?_⟩ | refine ⟨by simp [capMax]; omega, ?_⟩ | refine ⟨⟨by omega, by omega⟩, ?_⟩)
        exact Back_of (i + 1) [0, 1, 5, 7, 8] [(640000, 640000), (320, 320), (448, 448)] rfl rfl (by simp [eN, eM]) (by omega) (by omega)
    · have hX : SOK (doK out p2 out.length) := (doK_sok k2 out.length)
      have hXO := sok_Ok hX
      have hXO2 := hXO
      simp only [GState.Ok] at hXO2
      have ht := timeOf_bd hX
      have wt : IntKind.i64.wrap (timeOf (doK out p2 out.length) + 1) = timeOf (doK out p2 out.length) + 1 := wrap64 (by omega) (by omega)
      simp -dsimp [e]
      repeat (first | refine ⟨by omega, ?_⟩ | refine ⟨by simp [capMax]; omega, ?_⟩ | refine ⟨⟨by omega, by omega⟩, ?_⟩)
      refine ACallK_of (f35_ok p2 out (sok_Ok k2) ko (by omega)) ?_
      simp -dsimp [e]
      repeat (first | refine ⟨by omega, ?_⟩ | refine ⟨by simp [capMax]; omega, ?_⟩ | refine ⟨⟨by omega, by omega⟩, ?_⟩)
      refine ACallK_of (f65_ok (doK out p2 out.length) (by omega)) ?_
      simp -dsimp [wt, e]
      repeat (first | refine ⟨by omega, ?_⟩ | refine ⟨by simp [capMax]; omega, ?_⟩ | refine ⟨⟨by omega, by omega⟩, ?_⟩)
      refine ACallW_args (by intro us; simp -dsimp; exact ⟨rfl, rfl, rfl⟩) ?_
      refine ACallC_of (fun us => f66_ok (curN (curN c1 3).2 3).2 c3) (by intro us; simp -dsimp; exact ⟨rfl, rfl⟩) ?_
      simp -dsimp [e]
      repeat (first | refine ⟨by omega, ?_⟩ | refine ⟨by simp [capMax]; omega, ?_⟩ | refine ⟨⟨by omega, by omega⟩, ?_⟩)
      refine ACallK_of (f64_ok (doK out p2 out.length) 2 (timeOf (doK out p2 out.length) + 1) (editD (curN (curN c1 3).2 3).2).1 hXO (by omega) (by omega) (by omega)) ?_
      have hAo : (actOf (doK out p2 out.length) 2 (timeOf (doK out p2 out.length) + 1) (editD (curN (curN c1 3).2 3).2).1).1.Ok := actOf_ok hXO (by omega) (by omega)
      by_cases qa : (actOf (doK out p2 out.length) 2 (timeOf (doK out p2 out.length) + 1) (editD (curN (curN c1 3).2 3).2).1).2 = 0
      · have eM : asN ⟨(p0, p1, p2), out, c1⟩ = ⟨(p0, p1, (doAct (doK out p2 out.length) (actOf (doK out p2 out.length) 2 (timeOf (doK out p2 out.length) + 1) (editD (curN (curN c1 3).2 3).2).1).1).1), out ++ [(actOf (doK out p2 out.length) 2 (timeOf (doK out p2 out.length) + 1) (editD (curN (curN c1 3).2 3).2).1).1], (editD (curN (curN c1 3).2 3).2).2⟩ := by
          simp [asN, asA, asSt, asO, asR, asE, get3, put3, e, q, qa]
        generalize actOf (doK out p2 out.length) 2 (timeOf (doK out p2 out.length) + 1) (editD (curN (curN c1 3).2 3).2).1 = A at *
        simp -dsimp [qa, e]
        repeat (first | refine ⟨by omega, ?_⟩ | refine ⟨by simp [capMax]; omega, ?_⟩ | refine ⟨⟨by omega, by omega⟩, ?_⟩)
        refine ACallK_of (f26_ok (doK out p2 out.length) A.1 hXO hAo) ?_
        simp -dsimp [e, wi]
        repeat (first | refine ⟨by omega, ?_⟩ | refine ⟨by simp [capMax]; omega, ?_⟩ | refine ⟨⟨by omega, by omega⟩, ?_⟩)
        exact Back_of (i + 1) [0, 1, 5, 7, 8] [(640000, 640000), (320, 320), (448, 5312)] rfl rfl (by simp [eN, eM]) (by omega) (by omega)
      · have eM : asN ⟨(p0, p1, p2), out, c1⟩ = ⟨(p0, p1, (doK out p2 out.length)), out, (editD (curN (curN c1 3).2 3).2).2⟩ := by
          simp [asN, asA, asSt, asO, asR, asE, get3, put3, e, q, qa]
        generalize actOf (doK out p2 out.length) 2 (timeOf (doK out p2 out.length) + 1) (editD (curN (curN c1 3).2 3).2).1 = A at *
        simp -dsimp [qa, e, wi]
        repeat (first | refine ⟨by omega, ?_⟩ | refine ⟨by simp [capMax]; omega, ?_⟩ | refine ⟨⟨by omega, by omega⟩, ?_⟩)
        exact Back_of (i + 1) [0, 1, 5, 7, 8] [(640000, 640000), (320, 320), (448, 448)] rfl rfl (by simp [eN, eM]) (by omega) (by omega)
end Am
namespace Am
open Go Go.Proofs
open Cel (cells)
set_option maxRecDepth 100000
set_option linter.unusedSimpArgs false
set_option linter.unusedVariables false

theorem acts_frz (c : GCur) (hc : c.Ok) (n : Nat) (hn : n ≤ 1000) : FnW Try.prog 80 [.ptr [.im c.b.length (flat c.b), .int .i64 c.i, .int .i64 c.h], .v (.int .i64 n)] (.v (.ow 54 10 (actsK c n).out.length (flat (actsK c n).out))) [.ptr [.im ((actsK c n).c).b.length (flat ((actsK c n).c).b), .int .i64 ((actsK c n).c).i, .int .i64 ((actsK c n).c).h], .any] := by
  have h := FnW.frz_res (f80_ok c hc n hn)
  rw [flatO_frz] at h
  exact h
/-- Shuffled: so many steps. -/
def shufK (l : List GAct) (c : GCur) : Nat → List GAct × GCur
  | 0 => (l, c)
  | j + 1 => (((shufK l c j).1.set (l.length - 1 - j) (nth (shufK l c j).1 (curN (shufK l c j).2 ((l.length - 1 - j : Nat) + 1)).1.toNat)).set (curN (shufK l c j).2 ((l.length - 1 - j : Nat) + 1)).1.toNat (nth (shufK l c j).1 (l.length - 1 - j)), (curN (shufK l c j).2 ((l.length - 1 - j : Nat) + 1)).2)
theorem shufK_len (l : List GAct) (c : GCur) : ∀ j, (shufK l c j).1.length = l.length
  | 0 => rfl
  | j + 1 => by simp [shufK, shufK_len l c j]
theorem shufK_ok {l : List GAct} {c : GCur} (h : c.Ok) : ∀ j, (shufK l c j).2.Ok
  | 0 => h
  | j + 1 => curN_ok (shufK_ok h j) _
theorem shufK_mem {l : List GAct} {c : GCur} : ∀ j : Nat, j ≤ l.length - 1 → ∀ x, x ∈ (shufK l c j).1 → x ∈ l
  | 0, _, x, h => h
  | j + 1, hj, x, h => by
    have ih := shufK_mem (l := l) (c := c) j (by omega)
    have hl := shufK_len l c j
    have hb := curN_bd (shufK l c j).2 (n := ((l.length - 1 - j : Nat) : Int) + 1) (by omega)
    rw [shufK] at h
    rcases set_mem' h with rfl | h
    · exact ih _ (nth_mem (by omega))
    rcases set_mem' h with rfl | h
    · exact ih _ (nth_mem (by omega))
    · exact ih x h
def drawSettled (b : List UInt8) : List GAct := (shufK (actsK (curNew b) 8).out (actsK (curNew b) 8).c ((actsK (curNew b) 8).out.length - 1)).1

@[simp] def h27 : Hts := { merge := fun _ => false, mergeF := fun _ => false, lend := fun f => if f = 44 || f = 80 then [.box []] else [] }
set_option maxHeartbeats 4000000 in
theorem f27_ok (b : List UInt8) (hb : b.length ≤ 1048576) : FnR Try.prog 27 [.v (.im b.length (flat b))] (.v (.ow 54 10 (drawSettled b).length (flat (drawSettled b)))) := by
  have hA := actsK_ok (curNew_ok hb) 8
  refine FnW.of_AW TryT_ok 0 (fn := Try.f27) (by kernel_rfl) rfl (by kernel_rfl) rfl rfl rfl ?_; refine AW_of h27 TryT_ok (by kernel_rfl) ?_
  simp -dsimp
  refine ACallK_of (f38_ok b hb) ?_
  simp -dsimp
  refine ACallW_args (by intro us; simp -dsimp; exact ⟨rfl, rfl, rfl⟩) ?_
  refine ACallC_of (fun us => acts_frz (curNew b) (curNew_ok hb) 8 (by omega)) (by intro us; simp -dsimp; exact ⟨rfl, rfl⟩) ?_
  have hd : drawSettled b = (shufK (actsK (curNew b) 8).out (actsK (curNew b) 8).c ((actsK (curNew b) 8).out.length - 1)).1 := rfl
  rw [hd]
  obtain ⟨_, _, _, ko, kn, kc⟩ := hA
  generalize (actsK (curNew b) 8).out = l at *
  generalize (actsK (curNew b) 8).c = c at *
  have w1 : IntKind.i64.wrap ((l.length : Int) - 1) = l.length - 1 := wrap64 (by omega) (by omega)
  simp -dsimp [w1]
  refine AWh_loop (fun j : Nat => j ≤ l.length - 1) (fun j => mkE [(3, .box 576 0), (4, .arr 704), (5, .c (.int .i64 ((l.length : Int) - 1 - j)))] [(576, .box [.c (.im ((shufK l c j).2).b.length (flat ((shufK l c j).2).b)), .c (.int .i64 ((shufK l c j).2).i), .c (.int .i64 ((shufK l c j).2).h)]), (704, .arr 0 54 10 l.length (flat (shufK l c j).1))]) (fun j => l.length - j) 0 (Wk_to [3, 4, 5] [(576, 576), (704, 704)] rfl rfl (by simp [shufK])) (by simp) ?_
  rintro j hj
  have hc := shufK_ok (l := l) kc j
  have hl := shufK_len l c j
  have eN : shufK l c (j + 1) = (((shufK l c j).1.set (l.length - 1 - j) (nth (shufK l c j).1 (curN (shufK l c j).2 ((l.length - 1 - j : Nat) + 1)).1.toNat)).set (curN (shufK l c j).2 ((l.length - 1 - j : Nat) + 1)).1.toNat (nth (shufK l c j).1 (l.length - 1 - j)), (curN (shufK l c j).2 ((l.length - 1 - j : Nat) + 1)).2) := rfl
  generalize f1 : (shufK l c j).1 = m at *
  generalize f2 : (shufK l c j).2 = d at *
  refine AW_of h27 TryT_ok (by kernel_rfl) ?_
  rcases Nat.lt_or_ge j (l.length - 1) with h1 | h1
  · obtain ⟨i, hi⟩ : ∃ i : Nat, i = l.length - 1 - j := ⟨_, rfl⟩
    have hi' : (l.length : Int) - 1 - j = i := by omega
    have hi0 : 0 < i := by omega
    rw [← hi] at eN
    have hb2 := curN_bd d (n := (i : Int) + 1) (by omega)
    obtain ⟨k, hk⟩ := Int.eq_ofNat_of_zero_le hb2.1
    have hkm : k < m.length := by omega
    have him : i < m.length := by omega
    have hkm' : k < l.length := by omega
    have him' : i < l.length := by omega
    have w2 : IntKind.i64.wrap ((i : Int) + 1) = i + 1 := wrap64 (by omega) (by omega)
    have w3 : IntKind.i64.wrap ((i : Int) - 1) = i - 1 := wrap64 (by omega) (by omega)
    rw [hk, Int.toNat_natCast] at eN
    simp -dsimp [hi', hi0, w2]
    refine ACallW_args (by intro us; simp -dsimp; exact ⟨rfl, rfl, rfl⟩) ?_
    refine ACallC_of (fun us => f44_ok d hc ((i : Int) + 1)) (by intro us; simp -dsimp; exact ⟨rfl, rfl⟩) ?_
    simp -dsimp [hk, hkm, him, hkm', him', ne_of_lt hkm, ne_of_lt him, w3]
    have e5 : (l.length : Int) - 1 - ((j : Int) + 1) = i - 1 := by omega
    exact Back_of (j + 1) [3, 4, 5] [(576, 576), (704, 704)] rfl rfl (by simp [eN, e5]) (by omega) (by omega)
  · have e0 : ¬ (j : Int) < (l.length : Int) - 1 := by omega
    have ej : j = l.length - 1 := by omega
    rw [← ej, f1]
    simp -dsimp [e0, hl]

@[simp] def h31 : Hts := { merge := fun _ => false, mergeF := fun _ => false, lend := fun f => if f = 80 then [.box []] else [] }
theorem f31_ok (b : List UInt8) (hb : b.length ≤ 1048576) : FnR Try.prog 31 [.v (.im b.length (flat b))] (.v (.ow 54 10 ((actsK (curNew b) 9).out).length (flatO ((actsK (curNew b) 9).out)))) := by
  refine FnW.of_AW TryT_ok 0 (fn := Try.f31) (by kernel_rfl) rfl (by kernel_rfl) rfl rfl rfl ?_; refine AW_of h31 TryT_ok (by kernel_rfl) ?_
  simp -dsimp
  refine ACallK_of (f38_ok b hb) ?_
  simp -dsimp
  refine ACallW_args (by intro us; simp -dsimp; exact ⟨rfl, rfl, rfl⟩) ?_
  refine ACallC_of (fun us => f80_ok (curNew b) (curNew_ok hb) 9 (by omega)) (by intro us; simp -dsimp; exact ⟨rfl, rfl⟩) ?_
  simp -dsimp

@[simp] def h32 : Hts := { merge := fun _ => false, mergeF := fun _ => false, lend := fun f => if f = 44 || f = 83 then [.box []] else [] }
set_option maxHeartbeats 1000000 in
theorem f32_ok (b : List UInt8) (hb : b.length ≤ 1048576) : FnR Try.prog 32 [.v (.im b.length (flat b))] (.v (.ow 3 1 ((drawsK (curB (curNew b)).2 10000 12).1).length (flat ((drawsK (curB (curNew b)).2 10000 12).1)))) := by
  refine FnW.of_AW TryT_ok 0 (fn := Try.f32) (by kernel_rfl) rfl (by kernel_rfl) rfl rfl rfl ?_; refine AW_of h32 TryT_ok (by kernel_rfl) ?_
  simp -dsimp
  refine ACallK_of (f38_ok b hb) ?_
  simp -dsimp
  refine ACallW_args (by intro us; simp -dsimp; exact ⟨rfl, rfl, rfl⟩) ?_
  refine ACallC_of (fun us => f83_ok (curNew b) (curNew_ok hb)) (by intro us; simp -dsimp; exact ⟨rfl, rfl⟩) ?_
  have hc : (curB (curNew b)).2.Ok := curB_ok (curNew_ok hb)
  generalize (curB (curNew b)).2 = c at *
  simp -dsimp
  refine AWh_loop (fun i : Nat => i ≤ 12) (fun i => mkE [(3, .box 448 0), (4, .arr 256), (5, .c (.int .i64 i))] [(448, .box [.c (.im ((drawsK c 10000 i).2).b.length (flat ((drawsK c 10000 i).2).b)), .c (.int .i64 ((drawsK c 10000 i).2).i), .c (.int .i64 ((drawsK c 10000 i).2).h)]), (256, .arr 0 3 1 (drawsK c 10000 i).1.length (flat (drawsK c 10000 i).1))]) (fun i => 12 - i) 0 (Wk_to [3, 4, 5] [(448, 448), (256, 640)] rfl rfl (by simp [drawsK])) (by simp) ?_
  rintro i hi
  refine AW_of h32 TryT_ok (by kernel_rfl) ?_
  have wi : IntKind.i64.wrap ((i : Int) + 1) = i + 1 := wrap64 (by omega) (by omega)
  have hl := drawsK_len c 10000 i
  rcases Nat.lt_or_ge i 12 with q1 | q1
  · have q1' : (i : Int) < 12 := by omega
    simp -dsimp [q1']
    refine ACallW_args (by intro us; simp -dsimp; exact ⟨rfl, rfl, rfl⟩) ?_
    refine ACallC_of (fun us => f44_ok (drawsK c 10000 i).2 (drawsK_ok hc 10000 i) 10000) (by intro us; simp -dsimp; exact ⟨rfl, rfl⟩) ?_
    simp -dsimp [wi]
    repeat (first | refine ⟨by omega, ?_⟩ | refine ⟨by simp [capMax]; omega, ?_⟩ | refine ⟨⟨by omega, by omega⟩, ?_⟩)
    exact Back_of (i + 1) [3, 4, 5] [(448, 448), (256, 1216)] rfl rfl (by simp [drawsK]) (by omega) (by omega)
  · obtain rfl : i = 12 := by omega
    simp -dsimp

def daO (b : List UInt8) : Int × GCur := curN (actsK (curNew b) 6).c 3
def daL (b : List UInt8) : List GAct := if ((daO b).1 == 0) = true then (actsK (curNew b) 6).out ++ [(anyA (daO b).2).1] else (actsK (curNew b) 6).out
def daS (b : List UInt8) : GState := if ((daO b).1 == 0) = true then (anyD (anyA (daO b).2).2).1 else (anyD (daO b).2).1
theorem daS_Ok (b : List UInt8) : (daS b).Ok := by
  unfold daS
  split <;> exact anyD_Ok _
theorem daL_Ok {b : List UInt8} (hb : b.length ≤ 1048576) : (∀ a, a ∈ daL b → a.Ok) ∧ (daL b).length ≤ 7 := by
  have hA := actsK_ok (curNew_ok hb) 6
  have hn := hA.n
  unfold daL
  split
  · refine ⟨fun a ha => ?_, by simp only [List.length_append, List.length_singleton]; omega⟩
    rcases List.mem_append.1 ha with ha | ha
    · exact hA.o a ha
    · rw [List.mem_singleton.1 ha]; exact anyA_Ok _
  · exact ⟨hA.o, by omega⟩

@[simp] def h34 : Hts := { merge := fun _ => false, mergeF := fun _ => false, lend := fun f => if f = 80 || f = 42 || f = 63 || f = 41 then [.box []] else [] }
set_option maxHeartbeats 2000000 in
theorem f34_ok (b : List UInt8) (hb : b.length ≤ 1048576) : FnR Try.prog 34 [.v (.im b.length (flat b))] (.tup [.agg [.ow 3 1 (daS b).know.length (flat (daS b).know), .ow 38 3 (daS b).tallies.length (flat (daS b).tallies), .ow 40 6 (daS b).lives.length (flat (daS b).lives), .ow 35 8 (daS b).cs.length (flat (daS b).cs)], .v (.ow 54 10 (daL b).length (flatO (daL b)))]) := by
  have hA := actsK_ok (curNew_ok hb) 6
  refine FnW.of_AW TryT_ok 0 (fn := Try.f34) (by kernel_rfl) rfl (by kernel_rfl) rfl rfl rfl ?_; refine AW_of h34 TryT_ok (by kernel_rfl) ?_
  simp -dsimp
  refine ACallK_of (f38_ok b hb) ?_
  simp -dsimp
  refine ACallW_args (by intro us; simp -dsimp; exact ⟨rfl, rfl, rfl⟩) ?_
  refine ACallC_of (fun us => f80_ok (curNew b) (curNew_ok hb) 6 (by omega)) (by intro us; simp -dsimp; exact ⟨rfl, rfl⟩) ?_
  obtain ⟨_, _, _, ko, kn, kc⟩ := hA
  simp -dsimp
  refine ACallW_args (by intro us; simp -dsimp; exact ⟨rfl, rfl, rfl⟩) ?_
  refine ACallC_of (fun us => f42_ok (actsK (curNew b) 6).c kc 3) (by intro us; simp -dsimp; exact ⟨rfl, rfl⟩) ?_
  have c1 : (curN (actsK (curNew b) 6).c 3).2.Ok := curN_ok kc _
  cases q : ((curN (actsK (curNew b) 6).c 3).1 == 0)
  · simp -dsimp
    refine ACallW_args (by intro us; simp -dsimp; exact ⟨rfl, rfl, rfl⟩) ?_
    refine ACallC_of (fun us => f41_ok (curN (actsK (curNew b) 6).c 3).2 c1) (by intro us; simp -dsimp; exact ⟨rfl, rfl⟩) ?_
    simp -dsimp
    simp [daS, daL, daO, q]
  · simp -dsimp
    refine ACallW_args (by intro us; simp -dsimp; exact ⟨rfl, rfl, rfl⟩) ?_
    refine ACallC_of (fun us => f63_ok (curN (actsK (curNew b) 6).c 3).2 c1) (by intro us; simp -dsimp; exact ⟨rfl, rfl⟩) ?_
    simp -dsimp
    repeat (first | refine ⟨by omega, ?_⟩ | refine ⟨by simp [capMax]; omega, ?_⟩ | refine ⟨⟨by omega, by omega⟩, ?_⟩)
    refine ACallW_args (by intro us; simp -dsimp; exact ⟨rfl, rfl, rfl⟩) ?_
    refine ACallC_of (fun us => f41_ok (anyA (curN (actsK (curNew b) 6).c 3).2).2 (anyA_ok c1)) (by intro us; simp -dsimp; exact ⟨rfl, rfl⟩) ?_
    simp -dsimp
    simp [daS, daL, daO, q]
end Am
namespace Am
open Go
set_option linter.unusedSimpArgs false
set_option linter.unusedVariables false

/-- A state that knows all that its own did, and nothing that is not there. -/
def Own (r : Int) (out : List GAct) (s : GState) : Prop := ∃ D, Canon D s ∧ (∀ b, b ∈ D → b ∈ out) ∧ ∀ b, b ∈ out → b.dot.rep = r → b ∈ D
def Own3 (out : List GAct) (p : GState × GState × GState) : Prop := Own 0 out p.1 ∧ Own 1 out p.2.1 ∧ Own 2 out p.2.2
theorem own_more {r : Int} {out : List GAct} {s : GState} {a : GAct} (h : Own r out s) (hr : a.dot.rep ≠ r) : Own r (out ++ [a]) s := by
  obtain ⟨D, h1, h2, h3⟩ := h
  refine ⟨D, h1, fun b hb => List.mem_append_left _ (h2 b hb), fun b hb he => ?_⟩
  rcases List.mem_append.1 hb with hb | hb
  · exact h3 b hb he
  · rw [List.mem_singleton.1 hb] at he; exact absurd he hr
theorem own_all {r : Int} {out : List GAct} {s : GState} (h : Own r out s) : Own r out (doK out s out.length) := by
  obtain ⟨D, h1, h2, h3⟩ := h
  obtain ⟨D', c1, c2, c3⟩ := canon_all (l := out) h1 out.length (Nat.le_refl _)
  refine ⟨D', c1, fun b hb => ?_, fun b hb he => c2 b (h3 b hb he)⟩
  rcases c3 b hb with hb | hb
  · exact h2 b hb
  · exact hb
theorem own_len {r : Int} {out : List GAct} {s : GState} {D : List GAct} (h1 : Canon D s) (h2 : ∀ b, b ∈ D → b ∈ out) : D.length ≤ out.length := by
  have := nodup_len (m := out.map (·.dot)) h1.nod (fun d hd => by
    obtain ⟨x, hx, rfl⟩ := List.mem_map.1 hd
    exact List.mem_map.2 ⟨x, h2 x hx, rfl⟩)
  simpa using this
theorem actOf_rep {s : GState} {rep time : Int} {e : GEdit} (h : (actOf s rep time e).2 = 0) : (actOf s rep time e).1.dot.rep = rep := by
  rcases actOf_cases s rep time e with ⟨_, _, _, _, h4⟩ | ⟨h1, _⟩
  · rw [h4]; rfl
  · exact absurd h h1
/-- An act made of a wish, where all that one did is known. -/
theorem own_act {r : Int} {out : List GAct} {s : GState} {e : GEdit} (h : Own r out s) (hl : out.length ≤ 119) (hw : whole out) (hc : (actOf s r (timeOf s + 1) e).2 = 0) :
    whole (out ++ [(actOf s r (timeOf s + 1) e).1]) ∧ Own r (out ++ [(actOf s r (timeOf s + 1) e).1]) (doAct s (actOf s r (timeOf s + 1) e).1).1 := by
  obtain ⟨D, h1, h2, h3⟩ := h
  have hD := own_len (r := r) h1 h2
  have t1 := canon_tallies h1
  have t2 := canon_lives h1
  have t3 := canon_cells h1
  have hd := actOf_done h1.sok hc (by omega) (by omega) (by omega) (by omega)
  have hr := actOf_rep hc
  generalize (actOf s r (timeOf s + 1) e).1 = a at *
  obtain ⟨d1, d2⟩ := done_of hd
  refine ⟨whole_snoc hw h1 d1 h2 (fun b hb e => ?_) hl, ?_⟩
  · have hbD := h3 b hb (by rw [e]; exact hr)
    have hk := (h1.know a.dot).2 ⟨b, hbD, e⟩
    rw [d1.n] at hk
    cases hk
  · obtain ⟨D', c1, c2⟩ := canon_do a h1
    rcases c2 with ⟨rfl, _⟩ | ⟨_, c2⟩
    · refine ⟨_, c1, fun b hb => ?_, fun b hb he => ?_⟩
      · rcases List.mem_cons.1 hb with rfl | hb
        · exact List.mem_append_right _ (by simp)
        · exact List.mem_append_left _ (h2 b hb)
      · rcases List.mem_append.1 hb with hb | hb
        · exact List.mem_cons_of_mem _ (h3 b hb he)
        · rw [List.mem_singleton.1 hb]; simp
    · exact absurd hd c2
theorem own3_get {out : List GAct} {p : GState × GState × GState} (h : Own3 out p) {r : Int} (hr : r = 0 ∨ r = 1 ∨ r = 2) : Own r out (get3 r p) := by
  obtain ⟨h0, h1, h2⟩ := h
  rcases hr with rfl | rfl | rfl <;> simpa [get3]
theorem own3_put {out : List GAct} {p : GState × GState × GState} (h : Own3 out p) {r : Int} (hr : r = 0 ∨ r = 1 ∨ r = 2) {x : GState} (hx : Own r out x) : Own3 out (put3 r p x) := by
  obtain ⟨h0, h1, h2⟩ := h
  rcases hr with rfl | rfl | rfl <;> simp [put3, Own3, *]
theorem own3_snoc {out : List GAct} {p : GState × GState × GState} (h : Own3 out p) {r : Int} (hr : r = 0 ∨ r = 1 ∨ r = 2) {a : GAct} (ha : a.dot.rep = r) {x : GState} (hx : Own r (out ++ [a]) x) : Own3 (out ++ [a]) (put3 r p x) := by
  obtain ⟨h0, h1, h2⟩ := h
  rcases hr with rfl | rfl | rfl
  · have q1 := own_more h1 (by omega : a.dot.rep ≠ 1)
    have q2 := own_more h2 (by omega : a.dot.rep ≠ 2)
    simp [put3, Own3, *]
  · have q1 := own_more h0 (by omega : a.dot.rep ≠ 0)
    have q2 := own_more h2 (by omega : a.dot.rep ≠ 2)
    simp [put3, Own3, *]
  · have q1 := own_more h0 (by omega : a.dot.rep ≠ 0)
    have q2 := own_more h1 (by omega : a.dot.rep ≠ 1)
    simp [put3, Own3, *]
theorem own_new (r : Int) : Own r [] stateNew := ⟨[], canon_new, by simp, by simp⟩
theorem asN_whole {a : AS} (hw : whole a.out) (h : Own3 a.out a.st) (hl : a.out.length ≤ 119) : whole (asN a).out ∧ Own3 (asN a).out (asN a).st := by
  have hr : (asR a).1 = 0 ∨ (asR a).1 = 1 ∨ (asR a).1 = 2 := by
    have := curN_bd a.c (n := 3) (by decide)
    have e : (asR a).1 = (curN a.c 3).1 := rfl
    omega
  have hS : Own3 a.out (asSt a) := by
    unfold asSt
    split
    · exact own3_put h hr (own_all (own3_get h hr))
    · exact h
  unfold asN
  split
  · rename_i hc
    obtain ⟨w1, w2⟩ := own_act (own3_get hS hr) hl hw hc
    exact ⟨w1, own3_snoc hS hr (actOf_rep hc) w2⟩
  · exact ⟨hw, hS⟩
theorem asN_len (a : AS) : (asN a).out.length ≤ a.out.length + 1 := by
  unfold asN
  split
  · simp
  · simp
theorem actsK_len (c : GCur) : ∀ i, (actsK c i).out.length ≤ i
  | 0 => by simp [actsK]
  | i + 1 => by
    have h1 := actsK_len c i
    have h2 := asN_len (actsK c i)
    rw [actsK]; omega
theorem actsK_whole (c : GCur) : ∀ i : Nat, i ≤ 119 → whole (actsK c i).out ∧ Own3 (actsK c i).out (actsK c i).st
  | 0, _ => ⟨fun i hi => by simp [actsK] at hi, own_new 0, own_new 1, own_new 2⟩
  | i + 1, hi => by
    obtain ⟨h1, h2⟩ := actsK_whole c i (by omega)
    have hl := actsK_len c i
    exact asN_whole h1 h2 (by omega)

/-- Whole acts settle to what they come to in their order. -/
theorem settled_is {acts l : List GAct} (hw : whole acts) (hn : acts.length ≤ 119) (hm : ∀ a, a ∈ l ↔ a ∈ acts) : settled l = (doK acts stateNew acts.length, (acts.length : Int)) := by
  obtain ⟨n1, n2, n3⟩ := endK_is l
  have h0 : endK l ≠ 0 := fun e => by rw [e] at n2; cases n2
  obtain ⟨k, hk⟩ : ∃ k, endK l = k + 1 := ⟨endK l - 1, by omega⟩
  unfold settled
  rw [hk] at n2 ⊢
  obtain ⟨e1, e2⟩ := settled_whole hw hn hm n2
  rw [e1, e2]; rfl
theorem whole_codes {acts : List GAct} (hw : whole acts) : ∀ i : Nat, i ≤ acts.length → ∀ x, x ∈ cdK acts stateNew i → x = 0
  | 0, _, x, h => by cases h
  | i + 1, hi, x, h => by
    rw [cdK] at h
    rcases List.mem_append.1 h with h | h
    · exact whole_codes hw i (by omega) x h
    · rw [List.mem_singleton.1 h]; exact hw i (by omega)
end Am
namespace Am
open Go Go.Proofs
open Cel (cells)
set_option maxRecDepth 100000
set_option linter.unusedSimpArgs false
set_option linter.unusedVariables false

theorem anyM_time (k : Int) {y : Int} (hy : 0 ≤ y ∧ y < 60) {s : GState} (h : SOK s) : 0 ≤ timeOf (anyM k y s) ∧ timeOf (anyM k y s) ≤ 10000 := by
  have ht : ∀ x, x ∈ s.cs → x.time ≤ 10000 := fun x hx => by
    have := (h.c2 x hx).2
    simp only [cellOk', spIn, Bool.and_eq_true, decide_eq_true_eq] at this
    omega
  have h9 := tmod_bd hy.1 (n := 9) (by decide)
  refine timeK_bd _ (by omega) (fun x hx => ?_) _ (Nat.le_refl _)
  unfold anyM at hx
  split at hx
  · exact ht x hx
  split at hx
  · exact ht x hx
  split at hx
  · exact ht x hx
  split at hx
  · rcases List.mem_append.1 hx with hx | hx
    · exact ht x hx
    · rw [List.mem_singleton.1 hx]; simp only; omega
  split at hx
  · split at hx
    · rename_i hl
      rcases set_mem' hx with rfl | hx
      · have hb := tmod_bd hy.1 (n := s.cs.length) (by omega)
        exact ht (nth s.cs (y.tmod s.cs.length).toNat) (nth_mem (by omega))
      · exact ht x hx
    · exact ht x hx
  · exact ht x hx
theorem actOf_knew (s : GState) (rep time : Int) (e : GEdit) : (actOf s rep time e).1.knew.length = 0 ∨ (actOf s rep time e).1.knew.length = 3 := by
  rcases actOf_cases s rep time e with ⟨_, h1, _, _, h4⟩ | ⟨_, h4⟩
  · right
    rw [h4]
    simp only [actPre, Bool.and_eq_true] at h1
    have hk := (sok_of h1.1.1.1.1).k
    simp only [knowOk, Bool.and_eq_true, decide_eq_true_eq] at hk
    exact hk.1
  · left; rw [h4]; rfl
def twist (k : Int) (r : Int) (a : GAct) (v : Int) : GAct := if k = 1 ∧ 0 < a.knew.length then { a with knew := a.knew.set ((r + 1).tmod 3).toNat v } else a
def doK4 (b : List UInt8) : Int × GCur := curN (curNew b) 4
def doS (b : List UInt8) : GState × GCur := anyD (doK4 b).2
def doR (b : List UInt8) : Int × GCur := curN (doS b).2 3
def doE (b : List UInt8) : GEdit × GCur := editD (doR b).2
def doA (b : List UInt8) : GAct := if (doK4 b).1 = 0 then (anyA (doS b).2).1 else twist (doK4 b).1 (doR b).1 (actOf (doS b).1 (doR b).1 (timeOf (doS b).1 + 1) (doE b).1).1 (curN (doE b).2 6).1
theorem twist_Ok {k r v : Int} {a : GAct} (h : a.Ok) : (twist k r a v).Ok := by
  unfold twist
  simp only [GAct.Ok] at h ⊢
  split
  · simp only [List.length_set]; exact h
  · exact h
theorem doS_Ok (b : List UInt8) : (doS b).1.Ok := anyD_Ok _
theorem doA_Ok (b : List UInt8) : (doA b).Ok := by
  unfold doA
  split
  · exact anyA_Ok _
  · obtain ⟨g1, g2, g3, g4, g5⟩ := editD_good (doR b).2
    exact twist_Ok (actOf_ok (doS_Ok b) (by show (editD (doR b).2).1.obj.size ≤ _; omega) (by show (editD (doR b).2).1.key.size ≤ _; omega))

@[simp] def h24 : Hts := { merge := fun _ => false, mergeF := fun _ => false, lend := fun f => if f = 44 || f = 41 || f = 63 || f = 66 then [.box []] else [], dr := fun id => if id = 5 then [{ mn := [704], mb := [20] }, {}, { wr := [704], cr := true }, { wr := [128] }, { wr := [192] }] else if id = 7 then [{ mn := [704], mb := [27, 30, 8] }, { mn := [704], mb := [27, 30, 8] }, { mb := [8] }, { cr := true, mb := [8] }, { mn := [704], mb := [30, 8] }, { mb := [27, 8] }, { wr := [704], cr := true, mb := [8] }, { cr := true, mb := [8] }, { mb := [8] }, { mb := [8] }, { mn := [512], mb := [8] }, { mn := [704], cr := true, mb := [27, 30, 31] }, { wr := [512] }, {}] else if id = 9 then [{ mn := [704], mb := [48] }, { mn := [704], mb := [48] }, { mn := [704], mb := [48] }, { mn := [704], mb := [48] }, { mn := [704], mb := [48] }, {}, { wr := [704], cr := true }, { wr := [1987] }, { wr := [1987] }] else if id = 10 then [{}, { mn := [128] }, { wr := [128] }, { wr := [192] }] else [] }
set_option maxHeartbeats 8000000 in
theorem f24_ok (b : List UInt8) (hb : b.length ≤ 1048576) : FnR Try.prog 24 [.v (.im b.length (flat b))] (.tup [.agg [.ow 3 1 ((doS b).1).know.length (flat ((doS b).1).know), .ow 38 3 ((doS b).1).tallies.length (flat ((doS b).1).tallies), .ow 40 6 ((doS b).1).lives.length (flat ((doS b).1).lives), .ow 35 8 ((doS b).1).cs.length (flat ((doS b).1).cs)], .agg [.int .i64 (doA b).dot.rep, .int .i64 (doA b).dot.seq, .int .i64 (doA b).time, .ow 3 1 (doA b).knew.length (flat (doA b).knew), .int .i64 (doA b).kind, .str (doA b).obj, .str (doA b).key, .int .i64 (doA b).val, .int .i64 (doA b).ref.rep, .int .i64 (doA b).ref.seq]]) := by
  have c0 := curNew_ok hb
  have hO := doS_Ok b
  have hy := curN_bd (anyK (curN (curNew b) 4).2).2 (n := 60) (by decide)
  have ht := anyM_time (anyK (curN (curNew b) 4).2).1 hy (stateD_sok (anyY (curN (curNew b) 4).2).2)
  have ht' : 0 ≤ timeOf (anyD (curN (curNew b) 4).2).1 ∧ timeOf (anyD (curN (curNew b) 4).2).1 ≤ 10000 := ht
  have c1 : (curN (curNew b) 4).2.Ok := curN_ok c0 _
  have c2 : (anyD (curN (curNew b) 4).2).2.Ok := anyD_ok c1
  have hA : doA b = if (curN (curNew b) 4).1 = 0 then (anyA (anyD (curN (curNew b) 4).2).2).1 else twist (curN (curNew b) 4).1 (curN (anyD (curN (curNew b) 4).2).2 3).1 (actOf (anyD (curN (curNew b) 4).2).1 (curN (anyD (curN (curNew b) 4).2).2 3).1 (timeOf (anyD (curN (curNew b) 4).2).1 + 1) (editD (curN (anyD (curN (curNew b) 4).2).2 3).2).1).1 (curN (editD (curN (anyD (curN (curNew b) 4).2).2 3).2).2 6).1 := rfl
  have hS : (doS b).1 = (anyD (curN (curNew b) 4).2).1 := rfl
  rw [hA, hS]
  rw [hS] at hO
  have hO2 := hO
  simp only [GState.Ok] at hO2
  refine FnW.of_AW TryT_ok 0 (fn := Try.f24) (by kernel_rfl) rfl (by kernel_rfl) rfl rfl rfl ?_; refine AW_of h24 TryT_ok (by kernel_rfl) ?_
  simp -dsimp
  refine ACallK_of (f38_ok b hb) ?_
  simp -dsimp
  refine ACallW_args (by intro us; simp -dsimp; exact ⟨rfl, rfl, rfl⟩) ?_
  refine ACallC_of (fun us => f44_ok (curNew b) c0 4) (by intro us; simp -dsimp; exact ⟨rfl, rfl⟩) ?_
  simp -dsimp
  refine ACallW_args (by intro us; simp -dsimp; exact ⟨rfl, rfl, rfl⟩) ?_
  refine ACallC_of (fun us => f41_ok (curN (curNew b) 4).2 c1) (by intro us; simp -dsimp; exact ⟨rfl, rfl⟩) ?_
  generalize (anyD (curN (curNew b) 4).2).1 = s at *
  generalize (anyD (curN (curNew b) 4).2).2 = cA at *
  generalize (curN (curNew b) 4).1 = k at *
  by_cases k0 : k = 0
  · subst k0
    simp -dsimp
    refine ACallW_args (by intro us; simp -dsimp; exact ⟨rfl, rfl, rfl⟩) ?_
    refine ACallC_of (fun us => f63_ok cA c2) (by intro us; simp -dsimp; exact ⟨rfl, rfl⟩) ?_
    simp -dsimp
  have wt : IntKind.i64.wrap (timeOf s + 1) = timeOf s + 1 := wrap64 (by omega) (by omega)
  have hr := curN_bd cA (n := 3) (by decide)
  have c3 : (curN cA 3).2.Ok := curN_ok c2 _
  obtain ⟨g1, g2, g3, g4, g5⟩ := editD_good (curN cA 3).2
  rw [if_neg k0]
  simp -dsimp [k0]
  refine ACallW_args (by intro us; simp -dsimp; exact ⟨rfl, rfl, rfl⟩) ?_
  refine ACallC_of (fun us => f44_ok cA c2 3) (by intro us; simp -dsimp; exact ⟨rfl, rfl⟩) ?_
  simp -dsimp
  refine ACallK_of (f65_ok s (by omega)) ?_
  simp -dsimp [wt]
  refine ACallW_args (by intro us; simp -dsimp; exact ⟨rfl, rfl, rfl⟩) ?_
  refine ACallC_of (fun us => f66_ok (curN cA 3).2 c3) (by intro us; simp -dsimp; exact ⟨rfl, rfl⟩) ?_
  simp -dsimp
  refine ACallK_of (f64_ok s (curN cA 3).1 (timeOf s + 1) (editD (curN cA 3).2).1 hO (by omega) (by omega) (by omega)) ?_
  have hl := actOf_knew s (curN cA 3).1 (timeOf s + 1) (editD (curN cA 3).2).1
  have c4 : (editD (curN cA 3).2).2.Ok := editD_ok c3
  generalize (actOf s (curN cA 3).1 (timeOf s + 1) (editD (curN cA 3).2).1).1 = a at *
  generalize (editD (curN cA 3).2).2 = cB at *
  generalize (curN cA 3).1 = r at *
  by_cases k1 : k = 1
  rotate_left
  · have kb : (k == 1) = false := by simp [k1]
    simp -dsimp [k1, kb]
    simp [twist, k1]
  subst k1
  rcases hl with hl | hl
  · have he : a.knew = [] := List.eq_nil_of_length_eq_zero hl
    simp -dsimp [hl, he]
    simp [twist, he]
  have h0 : 0 < a.knew.length := by omega
  have hne : ¬ a.knew = [] := fun e => by rw [e] at hl; simp at hl
  obtain ⟨m, hm⟩ := Int.eq_ofNat_of_zero_le (tmod_bd (a := r + 1) (n := 3) (by omega) (by decide)).1
  have hm3 := (tmod_bd (a := r + 1) (n := 3) (by omega) (by decide)).2
  have hmk : m < a.knew.length := by omega
  have wr : IntKind.i64.wrap (r + 1) = r + 1 := wrap64 (by omega) (by omega)
  simp -dsimp [h0, hne, wr, hm]
  refine ACallW_args (by intro us; simp -dsimp; exact ⟨rfl, rfl, rfl⟩) ?_
  refine ACallC_of (fun us => f44_ok cB c4 6) (by intro us; simp -dsimp; exact ⟨rfl, rfl⟩) ?_
  simp -dsimp [h0, hne, hm, hmk, ne_of_lt hmk]
  repeat (first | refine ⟨by omega, ?_⟩ | refine ⟨by simp [capMax]; omega, ?_⟩ | refine ⟨⟨by omega, by omega⟩, ?_⟩)
  simp [twist, h0, hm, hne]
end Am
