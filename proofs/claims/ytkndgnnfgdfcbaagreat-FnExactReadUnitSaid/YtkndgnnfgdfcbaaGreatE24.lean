/- Texts of acts and units. No condition. -/
import Derived.Test.YtkndgnnfgdfcbaaGreatT
import Derived.Test.YtkndgnnfgdfcbaaGreatD
import Derived.Test.YtkndgnnfgdfcbaaGreatE15
import Derived.Test.YtkndgnnfgdfcbaaGreatE23
import Derived.Test.YtkndgnnfgdfcbaaGreatAm31
namespace Am
open Go Go.Proofs
open Cel (cells)
set_option maxRecDepth 100000
set_option linter.unusedSimpArgs false
set_option linter.unusedVariables false

theorem varsS_three (a b c : Int) : varsS [a, b, c] = varS a ++ (varS b ++ varS c) := by
  show catN _ 3 = _
  rw [catN, catN, catN, catN, nil_app, app_assoc]; rfl
def actS (a : GAct) : ByteArray := dotS a.dot ++ (varS a.time ++ (varsS a.knew ++ (varS a.kind ++ (shortS a.obj ++ (shortS a.key ++ (varS a.val ++ dotS a.ref))))))
def actT (a : GAct) : ByteArray := if actOk a = true then actS a else ⟨#[]⟩
structure ActR (a : GAct) : Prop where
  dot : dotR a.dot
  time : numOk a.time
  knew : a.knew.length = 3 ∧ ∀ i : Nat, i < a.knew.length → numOk (nth a.knew i)
  kind : numOk a.kind
  obj : a.obj.size ≤ 8
  key : a.key.size ≤ 8
  val : numOk a.val
  ref : dotR a.ref
theorem refZ_dot {d : GDot} (h : refZ d = true) : dotR d := refZ_R (by simp only [refZ] at h; simp [h])
theorem actOk_R {a : GAct} (h : actOk a = true) : ActR a := by
  simp only [actOk, Bool.and_eq_true] at h
  obtain ⟨⟨⟨⟨⟨h1, h2⟩, h3⟩, h4⟩, h5⟩, h6⟩ := h
  simp only [plain, Bool.and_eq_true, Bool.or_eq_true] at h5
  obtain ⟨⟨⟨p1, p2⟩, p3⟩, p4⟩ := h5
  refine ⟨dotOk_R h1, spIn_num h4 (by decide) (by decide), knowOk_facts h2, spIn_num p1 (by decide) (by decide), nameOk_size p2, ?_, ?_, ?_⟩
  · split at p3
    · exact nameOk_size p3
    · simp only [decide_eq_true_eq] at p3
      have : a.key = ⟨#[]⟩ := str_nil.1 p3
      rw [this]; decide
  · rcases p4 with p4 | p4
    · simp only [beq_iff_eq] at p4
      rw [p4]; exact ⟨by decide, by decide⟩
    · exact spIn_num p4.2 (by decide) (by decide)
  · unfold actRef at h6
    split at h6
    · exact knows_R h6
    · split at h6
      · simp only [Bool.or_eq_true] at h6
        rcases h6 with h6 | h6
        · exact refZ_dot h6
        · exact knows_R h6
      · exact refZ_dot h6
theorem actS_size {a : GAct} (h : ActR a) : (actS a).size ≤ 100 := by
  have := dotS_size h.dot
  have := varS_size h.time
  have := varsS_size h.knew.2
  have := h.knew.1
  have := varS_size h.kind
  have := shortS_size h.obj
  have := shortS_size h.key
  have := varS_size h.val
  have := dotS_size h.ref
  simp only [actS, ByteArray.size_append]; omega

@[simp] def h33 : Hts := { mergeF := fun _ => false, dr := fun id => if id = 3 then [{}, {}, { cr := true }, { mb := [9] }, { mb := [9] }, { cr := true }, { mb := [16, 20, 24, 28, 32, 36] }, { mb := [9, 12] }, { mb := [9, 12] }, { cr := true }, { mb := [20, 24, 28, 32, 36] }, { mb := [9, 12, 16] }, { mb := [9, 12, 16] }, { cr := true }, { mb := [24, 28, 32, 36] }, { mb := [9, 12, 16, 20] }, { mb := [9, 12, 16, 20] }, { cr := true }, { mb := [28, 32, 36] }, { mb := [9, 12, 16, 20, 24] }, { mb := [9, 12, 16, 20, 24] }, { cr := true }, { mb := [32, 36] }, { mb := [9, 12, 16, 20, 24, 28] }, { mb := [9, 12, 16, 20, 24, 28] }, { cr := true }, { mb := [36] }, { mb := [9, 12, 16, 20, 24, 28, 32] }, { mb := [9, 12, 16, 20, 24, 28, 32] }, { cr := true }, {}, {}, {}] else [] }
set_option maxHeartbeats 2000000 in
theorem f33_ok (a : GAct) (h : a.Ok) : FnR Tryz.prog 33 [.agg [.int .i64 a.dot.rep, .int .i64 a.dot.seq, .int .i64 a.time, .im a.knew.length (flat a.knew), .int .i64 a.kind, .str a.obj, .str a.key, .int .i64 a.val, .int .i64 a.ref.rep, .int .i64 a.ref.seq]] (.tup [.v (.str (actT a)), .v (.bool (actOk a))]) := by
  refine FnW.of_AW TryzT_ok 0 (fn := Tryz.f33) (by kernel_rfl) rfl (by kernel_rfl) rfl rfl rfl ?_
  refine AW_of h33 TryzT_ok (by kernel_rfl) ?_
  simp -dsimp
  refine ACallK_of (f86_ok _ h) ?_
  cases g : actOk a
  · simp -dsimp
    simp [actT, g]
  simp -dsimp
  have r := actOk_R g
  have q1 := dotS_size r.dot
  have q2 := varS_size r.time
  have q3 := varsS_size r.knew.2
  have q4 := r.knew.1
  have q5 := varS_size r.kind
  have q6 := shortS_size r.obj
  have q7 := shortS_size r.key
  have q8 := varS_size r.val
  have q9 := dotS_size r.ref
  have t1 := varS_size r.dot.1
  have t2 := varS_size r.dot.2
  have t3 := varS_size r.ref.1
  have t4 := varS_size r.ref.2
  refine ACallK_of (f92_ok _ r.dot.1 r.dot.2) ?_
  simp -dsimp [shortsS_one, shortsS_two, varsS_one, varsS_two, varsS_three]
  repeat (first | refine ⟨by omega, ?_⟩ | refine ⟨by simp [capMax, ByteArray.size_append]; omega, ?_⟩)
  refine ACallK_of (f91_ok _ r.time.1 r.time.2) ?_
  simp -dsimp [shortsS_one, shortsS_two, varsS_one, varsS_two, varsS_three]
  repeat (first | refine ⟨by omega, ?_⟩ | refine ⟨by simp [capMax, ByteArray.size_append]; omega, ?_⟩)
  refine ACallK_of (f88_ok _ (by omega) r.knew.2) ?_
  simp -dsimp [shortsS_one, shortsS_two, varsS_one, varsS_two, varsS_three]
  repeat (first | refine ⟨by omega, ?_⟩ | refine ⟨by simp [capMax, ByteArray.size_append]; omega, ?_⟩)
  refine ACallK_of (f91_ok _ r.kind.1 r.kind.2) ?_
  simp -dsimp [shortsS_one, shortsS_two, varsS_one, varsS_two, varsS_three]
  repeat (first | refine ⟨by omega, ?_⟩ | refine ⟨by simp [capMax, ByteArray.size_append]; omega, ?_⟩)
  refine ACallK_of (f32_ok _ (Nat.le_trans r.obj (by decide))) ?_
  simp -dsimp [shortsS_one, shortsS_two, varsS_one, varsS_two, varsS_three]
  repeat (first | refine ⟨by omega, ?_⟩ | refine ⟨by simp [capMax, ByteArray.size_append]; omega, ?_⟩)
  refine ACallK_of (f32_ok _ (Nat.le_trans r.key (by decide))) ?_
  simp -dsimp [shortsS_one, shortsS_two, varsS_one, varsS_two, varsS_three]
  repeat (first | refine ⟨by omega, ?_⟩ | refine ⟨by simp [capMax, ByteArray.size_append]; omega, ?_⟩)
  refine ACallK_of (f91_ok _ r.val.1 r.val.2) ?_
  simp -dsimp [shortsS_one, shortsS_two, varsS_one, varsS_two, varsS_three]
  repeat (first | refine ⟨by omega, ?_⟩ | refine ⟨by simp [capMax, ByteArray.size_append]; omega, ?_⟩)
  refine ACallK_of (f92_ok _ r.ref.1 r.ref.2) ?_
  simp -dsimp [shortsS_one, shortsS_two, varsS_one, varsS_two, varsS_three]
  repeat (first | refine ⟨by omega, ?_⟩ | refine ⟨by simp [capMax, ByteArray.size_append]; omega, ?_⟩)
  simp [actT, g, actS, app_assoc]

@[simp] def h37 : Hts := { mergeF := fun _ => false, dr := fun id => if id = 3 then [{}, {}, {}, {}, {}, {}, {}, {}, { cr := true }, { cr := true }, { mb := [16, 17] }, { mb := [16, 17] }, { cr := true }, {}, {}] else if id = 4 then [{ mb := [25, 26, 32, 33, 43, 44] }, { mb := [32, 43] }, { mb := [32, 43] }, { cr := true, mb := [32, 43] }, { cr := true, mb := [32, 43] }, { mb := [32, 33, 43, 44] }, { mb := [25, 26, 43] }, { mb := [25, 26, 43] }, { mb := [25, 26, 43] }, { mb := [25, 26, 43] }, { cr := true, mb := [25, 26, 43] }, { cr := true, mb := [43] }, { mb := [43, 44] }, { mb := [25, 26, 32, 33] }, { mb := [25, 26, 32, 33] }, { mb := [25, 26, 32, 33] }, { mb := [25, 26, 32, 33] }, { mb := [25, 26, 32, 33] }, { mb := [25, 26, 32, 33] }, { mb := [25, 26, 32, 33] }, { mb := [25, 26, 32, 33] }, { cr := true, mb := [25, 26, 32, 33] }, { cr := true }, {}, {}, {}] else [] }
set_option maxHeartbeats 2000000 in
theorem f37_ok (a : GAct) (h : a.Ok) : FnR Tryz.prog 37 [.agg [.int .i64 a.dot.rep, .int .i64 a.dot.seq, .int .i64 a.time, .im a.knew.length (flat a.knew), .int .i64 a.kind, .str a.obj, .str a.key, .int .i64 a.val, .int .i64 a.ref.rep, .int .i64 a.ref.seq]] (.tup [.v (.str (actT a)), .v (.bool (actOk a))]) := by
  refine FnW.of_AW TryzT_ok 0 (fn := Tryz.f37) (by kernel_rfl) rfl (by kernel_rfl) rfl rfl rfl ?_
  refine AW_of h37 TryzT_ok (by kernel_rfl) ?_
  simp -dsimp
  refine ACallK_of (f103_ok _ h) ?_
  cases g : actOk a
  · simp -dsimp
    simp [actT, g]
  simp -dsimp
  have r := actOk_R g
  have q1 := dotS_size r.dot
  have q2 := varS_size r.time
  have q3 := varsS_size r.knew.2
  have q4 := r.knew.1
  have q5 := varS_size r.kind
  have q6 := shortS_size r.obj
  have q7 := shortS_size r.key
  have q8 := varS_size r.val
  have q9 := dotS_size r.ref
  have t1 := varS_size r.dot.1
  have t2 := varS_size r.dot.2
  have t3 := varS_size r.ref.1
  have t4 := varS_size r.ref.2
  refine ACallK_of (f105_ok [a.dot.rep, a.dot.seq, a.time] (by simp) (by intro i hi; match i, hi with | 0, _ => exact r.dot.1 | 1, _ => exact r.dot.2 | 2, _ => exact r.time)) ?_
  simp -dsimp [shortsS_one, shortsS_two, varsS_one, varsS_two, varsS_three]
  repeat (first | refine ⟨by omega, ?_⟩ | refine ⟨by simp [capMax, ByteArray.size_append]; omega, ?_⟩)
  refine ACallK_of (f105_ok _ (by omega) r.knew.2) ?_
  simp -dsimp [shortsS_one, shortsS_two, varsS_one, varsS_two, varsS_three]
  repeat (first | refine ⟨by omega, ?_⟩ | refine ⟨by simp [capMax, ByteArray.size_append]; omega, ?_⟩)
  refine ACallK_of (f105_ok [a.kind] (by simp) (by intro i hi; match i, hi with | 0, _ => exact r.kind)) ?_
  simp -dsimp [shortsS_one, shortsS_two, varsS_one, varsS_two, varsS_three]
  repeat (first | refine ⟨by omega, ?_⟩ | refine ⟨by simp [capMax, ByteArray.size_append]; omega, ?_⟩)
  refine ACallK_of (f106_ok [a.obj, a.key] (by simp) (by intro i hi; match i, hi with | 0, _ => exact Nat.le_trans r.obj (by decide) | 1, _ => exact Nat.le_trans r.key (by decide))) ?_
  simp -dsimp [shortsS_one, shortsS_two, varsS_one, varsS_two, varsS_three]
  repeat (first | refine ⟨by omega, ?_⟩ | refine ⟨by simp [capMax, ByteArray.size_append]; omega, ?_⟩)
  refine ACallK_of (f105_ok [a.val, a.ref.rep, a.ref.seq] (by simp) (by intro i hi; match i, hi with | 0, _ => exact r.val | 1, _ => exact r.ref.1 | 2, _ => exact r.ref.2)) ?_
  simp -dsimp [shortsS_one, shortsS_two, varsS_one, varsS_two, varsS_three]
  repeat (first | refine ⟨by omega, ?_⟩ | refine ⟨by simp [capMax, ByteArray.size_append]; omega, ?_⟩)
  simp [actT, g, actS, dotS, app_assoc]

theorem shortBig (s : ByteArray) (hs : 20000 < s.size) : FnR Tryz.prog 40 [.v (.str s)] (.tup [.v (.str (⟨#[]⟩)), .v (.bool false)]) := by
  have hi : (20000 : Int) < s.size := by omega
  have hj : ¬ (s.size : Int) ≤ 20000 := by omega
  refine FnW.of_AW TryzT_ok 0 (fn := Tryz.f40) (by kernel_rfl) rfl (by kernel_rfl) rfl rfl rfl ?_
  refine AW_of h40 TryzT_ok (by kernel_rfl) ?_
  simp -dsimp [hi, hj]
def unitS (u : GUnit) : ByteArray := if u.batch = true then (⟨#[1]⟩ : ByteArray) ++ shortS (deltaText u.delta) else (⟨#[0]⟩ : ByteArray) ++ actS u.act
def unitTOk (u : GUnit) : Bool := unitOk u && (!u.batch || deltaTextOk u.delta)
def unitText (u : GUnit) : ByteArray := if unitTOk u = true then sealS (unitS u) else ⟨#[]⟩
def unitTextOk (u : GUnit) : Bool := unitTOk u && sealOk (unitS u)
theorem deltaText_size (d : GDelta) : (deltaText d).size ≤ 20004 := by
  unfold deltaText sealS
  split
  · split
    · have := fourS_size (sumOf (deltaS d))
      rw [ByteArray.size_append]; omega
    · decide
  · decide
theorem one_size : (⟨#[1]⟩ : ByteArray).size = 1 := rfl
theorem nought_size : (⟨#[0]⟩ : ByteArray).size = 1 := rfl
theorem unitOk_act {u : GUnit} (h : unitOk u = true) (hb : u.batch = false) : actOk u.act = true := by
  simp only [unitOk, hb] at h
  simp at h
  exact h.1

@[simp] def h7 : Hts := { mergeF := fun _ => false }
set_option maxHeartbeats 2000000 in
theorem f7_ok (u : GUnit) (h : u.Ok) : FnR Tryz.prog 7 [.agg [.bool u.batch, .int .i64 u.act.dot.rep, .int .i64 u.act.dot.seq, .int .i64 u.act.time, .im u.act.knew.length (flat u.act.knew), .int .i64 u.act.kind, .str u.act.obj, .str u.act.key, .int .i64 u.act.val, .int .i64 u.act.ref.rep, .int .i64 u.act.ref.seq, .im u.delta.base.length (flat u.delta.base), .im u.delta.know.length (flat u.delta.know), .im u.delta.tallies.length (flat u.delta.tallies), .im u.delta.lives.length (flat u.delta.lives), .im u.delta.dead.length (flat u.delta.dead), .im u.delta.cs.length (flat u.delta.cs)]] (.tup [.v (.str (unitText u)), .v (.bool (unitTextOk u))]) := by
  have h' := h
  simp only [GUnit.Ok] at h'
  refine FnW.of_AW TryzT_ok 0 (fn := Tryz.f7) (by kernel_rfl) rfl (by kernel_rfl) rfl rfl rfl ?_
  refine AW_of h7 TryzT_ok (by kernel_rfl) ?_
  simp -dsimp
  refine ACallK_of (f29_ok _ h) ?_
  cases g : unitOk u
  · simp -dsimp
    simp [unitText, unitTextOk, unitTOk, g]
  cases hb : u.batch
  · simp -dsimp [hb]
    have ga := unitOk_act g hb
    have r := actOk_R ga
    have z := actS_size r
    refine ACallK_of (f33_ok _ h'.1) ?_
    simp -dsimp [actT, ga, one_size, nought_size]
    repeat (first | refine ⟨by simp [capMax, ByteArray.size_append, one_size, nought_size]; omega, ?_⟩)
    refine ACallK_of (f31_ok _ (by simp [ByteArray.size_append, one_size, nought_size]; omega)) ?_
    simp -dsimp
    simp [unitText, unitTextOk, unitTOk, g, hb, unitS]
  · have hsz := deltaText_size u.delta
    have hv : (varS (deltaText u.delta).size).size ≤ 5 := varS_five (by omega)
    have hss : (shortS (deltaText u.delta)).size ≤ 20009 := by rw [shortS, ByteArray.size_append]; omega
    simp -dsimp [hb]
    refine ACallK_of (f30_ok _ h'.2) ?_
    cases gd : deltaTextOk u.delta
    · simp -dsimp
      simp [unitText, unitTextOk, unitTOk, g, hb, gd]
    · simp -dsimp
      refine ACallK_of (f32_ok _ (by omega)) ?_
      simp -dsimp
      repeat (first | refine ⟨by simp [capMax, ByteArray.size_append, one_size, nought_size]; omega, ?_⟩)
      refine ACallK_of (f31_ok _ (by simp [ByteArray.size_append, one_size, nought_size]; omega)) ?_
      simp -dsimp
      simp [unitText, unitTextOk, unitTOk, g, hb, gd, unitS]

@[simp] def h9 : Hts := { mergeF := fun _ => false }
set_option maxHeartbeats 2000000 in
theorem f9_ok (u : GUnit) (h : u.Ok) : FnR Tryz.prog 9 [.agg [.bool u.batch, .int .i64 u.act.dot.rep, .int .i64 u.act.dot.seq, .int .i64 u.act.time, .im u.act.knew.length (flat u.act.knew), .int .i64 u.act.kind, .str u.act.obj, .str u.act.key, .int .i64 u.act.val, .int .i64 u.act.ref.rep, .int .i64 u.act.ref.seq, .im u.delta.base.length (flat u.delta.base), .im u.delta.know.length (flat u.delta.know), .im u.delta.tallies.length (flat u.delta.tallies), .im u.delta.lives.length (flat u.delta.lives), .im u.delta.dead.length (flat u.delta.dead), .im u.delta.cs.length (flat u.delta.cs)]] (.tup [.v (.str (unitText u)), .v (.bool (unitTextOk u))]) := by
  have h' := h
  simp only [GUnit.Ok] at h'
  refine FnW.of_AW TryzT_ok 0 (fn := Tryz.f9) (by kernel_rfl) rfl (by kernel_rfl) rfl rfl rfl ?_
  refine AW_of h9 TryzT_ok (by kernel_rfl) ?_
  simp -dsimp
  refine ACallK_of (f36_ok _ h) ?_
  cases g : unitOk u
  · simp -dsimp
    simp [unitText, unitTextOk, unitTOk, g]
  cases hb : u.batch
  · simp -dsimp [hb]
    have ga := unitOk_act g hb
    have r := actOk_R ga
    have z := actS_size r
    refine ACallK_of (f37_ok _ h'.1) ?_
    simp -dsimp [actT, ga, one_size, nought_size]
    repeat (first | refine ⟨by simp [capMax, ByteArray.size_append, one_size, nought_size]; omega, ?_⟩)
    refine ACallK_of (f38_ok _ (by simp [ByteArray.size_append, one_size, nought_size]; omega)) ?_
    simp -dsimp
    simp [unitText, unitTextOk, unitTOk, g, hb, unitS]
  · have hsz := deltaText_size u.delta
    have hv : (varS (deltaText u.delta).size).size ≤ 5 := varS_five (by omega)
    have hss : (shortS (deltaText u.delta)).size ≤ 20009 := by rw [shortS, ByteArray.size_append]; omega
    simp -dsimp [hb]
    refine ACallK_of (f39_ok _ h'.2) ?_
    cases gd : deltaTextOk u.delta
    · simp -dsimp
      simp [unitText, unitTextOk, unitTOk, g, hb, gd]
    · simp -dsimp
      rcases Nat.lt_or_ge 20000 (deltaText u.delta).size with big | big
      · refine ACallK_of (shortBig _ big) ?_
        simp -dsimp
        have hno : ¬ (unitS u).size ≤ 20000 := by
          simp only [unitS, hb, if_true, shortS, ByteArray.size_append]; omega
        simp [unitText, unitTextOk, unitTOk, g, hb, gd, sealS, sealOk, hno]
      · refine ACallK_of (f40_ok _ big) ?_
        simp -dsimp
        repeat (first | refine ⟨by simp [capMax, ByteArray.size_append, one_size, nought_size]; omega, ?_⟩)
        refine ACallK_of (f38_ok _ (by simp [ByteArray.size_append, one_size, nought_size]; omega)) ?_
        simp -dsimp
        simp [unitText, unitTextOk, unitTOk, g, hb, gd, unitS]
end Am
