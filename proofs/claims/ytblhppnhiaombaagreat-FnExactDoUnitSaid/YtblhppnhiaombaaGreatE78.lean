/- An act done: of both. No condition. -/
import Derived.Test.YtblhppnhiaombaaGreatT
import Derived.Test.YtblhppnhiaombaaGreatD
import Derived.Test.YtblhppnhiaombaaGreatE77
import Derived.Test.YtblhppnhiaombaaGreatE63
import Derived.Test.YtblhppnhiaombaaGreatAm31
namespace Am
open Go Go.Proofs
open Cel (cells)
set_option maxRecDepth 100000
set_option linter.unusedSimpArgs false
set_option linter.unusedVariables false

def doneAct (s : GState) (a : GAct) : GState :=
  let k := s.know.set a.dot.rep.toNat a.dot.seq
  if a.kind = 1 then ⟨k, addT s.tallies a.obj a.dot.rep a.val, s.lives, s.cs⟩
  else if a.kind = 2 then ⟨k, s.tallies, insF liveLt ⟨false, a.obj, a.key, 0, a.dot⟩ s.lives, s.cs⟩
  else if a.kind = 3 then ⟨k, s.tallies, clearK false a.obj a.key a.knew s.lives s.lives.length, s.cs⟩
  else if a.kind = 4 then ⟨k, s.tallies, insF liveLt ⟨true, a.obj, a.key, a.val, a.dot⟩ (clearK true a.obj a.key a.knew s.lives s.lives.length), s.cs⟩
  else if a.kind = 5 then ⟨k, s.tallies, clearK true a.obj a.key a.knew s.lives s.lives.length, s.cs⟩
  else if a.kind = 6 then ⟨k, s.tallies, s.lives, insF cellLt ⟨a.obj, a.dot, a.time, a.ref, a.val, false⟩ s.cs⟩
  else ⟨k, s.tallies, s.lives, s.cs.set (refAtI s a) { nth s.cs (refAtI s a) with gone := true }⟩
def doAct (s : GState) (a : GAct) : GState × Int :=
  if stateOk s = false then (s, 3) else if actOk a = false then (s, 3) else if knows s.know a.dot = true then (s, 1) else
  if knowIn a.knew s.know = false then (s, 2) else if actRefOk s a = false then (s, 3) else
  if tooMany (doneAct s a) = true then (s, 4) else (doneAct s a, 0)
/-- What an act that may be done has. -/
structure ActF (s : GState) (a : GAct) : Prop where
  r0 : 0 ≤ a.dot.rep
  r1 : a.dot.rep.toNat < s.know.length
  k1 : 1 ≤ a.kind
  k7 : a.kind ≤ 7
  v0 : 0 ≤ a.val
  v1 : a.val ≤ 999999
  ref : a.kind = 7 → ∃ j : Nat, j < s.cs.length ∧ cellAt s.cs a.ref = j
theorem actF_of {s : GState} {a : GAct} (ks : stateOk s = true) (ka : actOk a = true) (kr : actRefOk s a = true) : ActF s a := by
  have hk := stateOk_know ks
  simp only [actOk, Bool.and_eq_true] at ka
  obtain ⟨⟨⟨⟨⟨a1, a2⟩, a3⟩, a4⟩, a5⟩, a6⟩ := ka
  simp only [dotOk, spIn, Bool.and_eq_true, decide_eq_true_eq] at a1
  simp only [plain, spIn, Bool.and_eq_true, Bool.or_eq_true, decide_eq_true_eq, beq_iff_eq] at a5
  refine ⟨by omega, by omega, by omega, by omega, by omega, by omega, fun h7 => ?_⟩
  simp only [actRefOk, h7, true_or, if_true, Bool.and_eq_true, decide_eq_true_eq] at kr
  rcases cellAt_cases s.cs a.ref with c1 | ⟨j, hj, c1⟩
  · omega
  · exact ⟨j, hj, c1⟩

@[simp] def h139 : Hts := { merge := fun _ => false, mergeF := fun _ => false, lend := fun f => if f = 222 then [.box [0, 2, 3]] else if f = 225 then [.box [0, 1, 3]] else [], dr := fun id => if id = 1 then [{}, {}, {}, {}, {}, {}, {}, {}, {}, {}, { wr := [640001] }, { wr := [640001] }] else if id = 6 then [{ mb := [42] }, {}, {}, {}, {}, {}, {}, {}, {}, {}, {}, {}, { cr := true }, {}, { wr := [640000] }, { wr := [640000] }] else if id = 11 then [{ mb := [79] }, {}, {}, {}, {}, {}, {}, {}, {}, {}, {}, {}, {}, {}, { cr := true }, {}, { wr := [640000] }, { wr := [640000] }] else if id = 15 then [{ mb := [110] }, {}, {}, {}, {}, {}, {}, {}, {}, {}, {}, {}, {}, {}, {}, {}, { cr := true }, {}, { wr := [640000] }, { wr := [640000] }] else if id = 17 then [{ mb := [124] }, { mb := [124] }, { mb := [124] }, { mb := [124] }, {}, {}, {}, {}, {}, { cr := true }, {}, { wr := [640004] }, { wr := [640004] }] else [] }
set_option maxHeartbeats 8000000 in
theorem f139_ok (s : GState) (a : GAct) (hs : s.Ok) (F : ActF s a) (hk : a.knew.length ≤ 1073741824) (l1 : s.tallies.length ≤ 120) (l2 : s.lives.length ≤ 120) (l3 : s.cs.length ≤ 120) : FnW Tryz.prog 139 [.ptr [.ow 3 1 s.know.length (flat s.know), .ow 179 3 s.tallies.length (flat s.tallies), .ow 182 6 s.lives.length (flat s.lives), .ow 185 8 s.cs.length (flat s.cs)], .agg [.int .i64 a.dot.rep, .int .i64 a.dot.seq, .int .i64 a.time, .im a.knew.length (flat a.knew), .int .i64 a.kind, .str a.obj, .str a.key, .int .i64 a.val, .int .i64 a.ref.rep, .int .i64 a.ref.seq]] (.tup []) [.ptr [.ow 3 1 (doneAct s a).know.length (flat (doneAct s a).know), .ow 179 3 (doneAct s a).tallies.length (flat (doneAct s a).tallies), .ow 182 6 (doneAct s a).lives.length (flat (doneAct s a).lives), .ow 185 8 (doneAct s a).cs.length (flat (doneAct s a).cs)], .any] := by
  obtain ⟨dot, time, knew, kind, obj, key, val, ref⟩ := a
  obtain ⟨f0, f1, f2, f3, f4, f5, f6⟩ := F
  simp only at f0 f1 f2 f3 f4 f5 f6 hk
  have hkl := clearK_len false obj key knew s.lives s.lives.length
  have hkl2 := clearK_len true obj key knew s.lives s.lives.length
  refine FnW.of_AW TryzT_ok 1 (fn := Tryz.f139) (by kernel_rfl) rfl (by kernel_rfl) rfl rfl rfl ?_; refine AW_of h139 TryzT_ok (by kernel_rfl) ?_
  obtain rfl | rfl | rfl | rfl | rfl | rfl | rfl : kind = 1 ∨ kind = 2 ∨ kind = 3 ∨ kind = 4 ∨ kind = 5 ∨ kind = 6 ∨ kind = 7 := by omega
  · simp -dsimp [f0, f1, ne_of_lt f1]
    repeat (first | refine ⟨by omega, ?_⟩ | refine ⟨by simp [capMax]; omega, ?_⟩ | refine ⟨⟨by omega, by omega⟩, ?_⟩)
    refine ACallW_args (by intro us; simp -dsimp; exact ⟨rfl, rfl, rfl⟩) ?_
    refine ACallC_of (fun us => f222_ok _ _ _ _ _ _ _ (by omega)) (by intro us; simp -dsimp; exact ⟨rfl, rfl⟩) ?_
    simp -dsimp
    simp [doneAct]
  · simp -dsimp [f0, f1, ne_of_lt f1]
    repeat (first | refine ⟨by omega, ?_⟩ | refine ⟨by simp [capMax]; omega, ?_⟩ | refine ⟨⟨by omega, by omega⟩, ?_⟩)
    refine ACallK_of (f176_ok s.lives ⟨false, obj, key, 0, dot⟩ (by omega)) ?_
    simp -dsimp
    simp [doneAct]
  · simp -dsimp [f0, f1, ne_of_lt f1]
    repeat (first | refine ⟨by omega, ?_⟩ | refine ⟨by simp [capMax]; omega, ?_⟩ | refine ⟨⟨by omega, by omega⟩, ?_⟩)
    refine ACallW_args (by intro us; simp -dsimp; exact ⟨rfl, rfl, rfl⟩) ?_
    refine ACallC_of (fun us => f225_ok _ _ _ _ _ _ _ _ (by omega) hk) (by intro us; simp -dsimp; exact ⟨rfl, rfl⟩) ?_
    simp -dsimp
    simp [doneAct]
  · simp -dsimp [f0, f1, ne_of_lt f1]
    repeat (first | refine ⟨by omega, ?_⟩ | refine ⟨by simp [capMax]; omega, ?_⟩ | refine ⟨⟨by omega, by omega⟩, ?_⟩)
    refine ACallW_args (by intro us; simp -dsimp; exact ⟨rfl, rfl, rfl⟩) ?_
    refine ACallC_of (fun us => f225_ok _ _ _ _ _ _ _ _ (by omega) hk) (by intro us; simp -dsimp; exact ⟨rfl, rfl⟩) ?_
    simp -dsimp
    refine ACallK_of (f176_ok (clearK true obj key knew s.lives s.lives.length) ⟨true, obj, key, val, dot⟩ (by omega)) ?_
    simp -dsimp
    simp [doneAct]
  · simp -dsimp [f0, f1, ne_of_lt f1]
    repeat (first | refine ⟨by omega, ?_⟩ | refine ⟨by simp [capMax]; omega, ?_⟩ | refine ⟨⟨by omega, by omega⟩, ?_⟩)
    refine ACallW_args (by intro us; simp -dsimp; exact ⟨rfl, rfl, rfl⟩) ?_
    refine ACallC_of (fun us => f225_ok _ _ _ _ _ _ _ _ (by omega) hk) (by intro us; simp -dsimp; exact ⟨rfl, rfl⟩) ?_
    simp -dsimp
    simp [doneAct]
  · simp -dsimp [f0, f1, ne_of_lt f1]
    repeat (first | refine ⟨by omega, ?_⟩ | refine ⟨by simp [capMax]; omega, ?_⟩ | refine ⟨⟨by omega, by omega⟩, ?_⟩)
    refine ACallK_of (f226_ok s.cs ⟨obj, dot, time, ref, val, false⟩ (by omega)) ?_
    simp -dsimp
    simp [doneAct]
  · obtain ⟨j, hj, c1⟩ := f6 rfl
    simp -dsimp [f0, f1, ne_of_lt f1]
    repeat (first | refine ⟨by omega, ?_⟩ | refine ⟨by simp [capMax]; omega, ?_⟩ | refine ⟨⟨by omega, by omega⟩, ?_⟩)
    have hcall := f220_ok ⟨s.know.set dot.rep.toNat dot.seq, s.tallies, s.lives, s.cs⟩ ref (by simp only; omega)
    simp only [List.length_set] at hcall
    refine ACallK_of (hcall) ?_
    rw [c1]
    simp -dsimp [hj, ne_of_lt hj]
    repeat (first | refine ⟨by omega, ?_⟩ | refine ⟨by simp [capMax]; omega, ?_⟩ | refine ⟨⟨by omega, by omega⟩, ?_⟩)
    simp [doneAct, refAtI, c1]

theorem doneAct_ok {s : GState} {a : GAct} (hs : s.Ok) (ha : a.Ok) (l1 : s.tallies.length ≤ 120) (l2 : s.lives.length ≤ 120) (l3 : s.cs.length ≤ 120) : (doneAct s a).Ok := by
  simp only [GState.Ok, GAct.Ok] at hs ha
  obtain ⟨s0, s1, s2, s3, s4, s5, s6⟩ := hs
  obtain ⟨a0, a1, a2⟩ := ha
  have c1 := clearK_len false a.obj a.key a.knew s.lives s.lives.length
  have c2 := clearK_len true a.obj a.key a.knew s.lives s.lives.length
  have hcm : ∀ m y, y ∈ clearK m a.obj a.key a.knew s.lives s.lives.length → y.Ok := by
    intro m y hy
    rcases (filK_mem (Nat.le_refl _)).1 hy with h | ⟨i, hi, rfl, _⟩
    · cases h
    · exact s4 _ (nth_mem hi)
  have hins : ∀ (l : List GLive) (x : GLive), (∀ y, y ∈ l → y.Ok) → x.Ok → ∀ y, y ∈ insF liveLt x l → y.Ok := by
    intro l x hl hx y hy
    rcases List.mem_cons.1 ((insF_perm _ _).mem_iff.1 hy) with rfl | h
    · exact hx
    · exact hl y h
  have hx1 : GLive.Ok ⟨false, a.obj, a.key, 0, a.dot⟩ := by simp only [GLive.Ok]; exact ⟨a1, a2⟩
  have hx2 : GLive.Ok ⟨true, a.obj, a.key, a.val, a.dot⟩ := by simp only [GLive.Ok]; exact ⟨a1, a2⟩
  have ht := addT_len s.tallies a.obj a.dot.rep a.val
  unfold doneAct
  simp only
  split
  · simp only [GState.Ok, List.length_set]
    refine ⟨s0, by omega, fun y hy => ?_, s3, s4, s5, s6⟩
    rcases addT_mem hy with h | h
    · exact s2 y h
    · simp only [GTally.Ok]; rw [h]; exact a1
  split
  · simp only [GState.Ok, List.length_set, insF_len]
    exact ⟨s0, s1, s2, by omega, hins _ _ s4 hx1, s5, s6⟩
  split
  · simp only [GState.Ok, List.length_set]
    exact ⟨s0, s1, s2, by omega, hcm _, s5, s6⟩
  split
  · simp only [GState.Ok, List.length_set, insF_len]
    exact ⟨s0, s1, s2, by omega, hins _ _ (hcm _) hx2, s5, s6⟩
  split
  · simp only [GState.Ok, List.length_set]
    exact ⟨s0, s1, s2, by omega, hcm _, s5, s6⟩
  split
  · simp only [GState.Ok, List.length_set, insF_len]
    refine ⟨s0, s1, s2, s3, s4, by omega, fun y hy => ?_⟩
    rcases List.mem_cons.1 ((insF_perm _ _).mem_iff.1 hy) with rfl | h
    · simp only [GCell.Ok]; exact a1
    · exact s6 y h
  · simp only [GState.Ok, List.length_set]
    refine ⟨s0, s1, s2, s3, s4, s5, fun y hy => ?_⟩
    rcases List.mem_or_eq_of_mem_set hy with h | rfl
    · exact s6 y h
    · simp only [GCell.Ok]
      by_cases hi : refAtI s a < s.cs.length
      · have := s6 _ (nth_mem hi)
        simpa only [GCell.Ok] using this
      · rw [List.set_eq_of_length_le (by omega)] at hy
        have := s6 _ hy
        simpa only [GCell.Ok] using this

@[simp] def h50 : Hts := { merge := fun _ => false, mergeF := fun _ => false, lend := fun f => if f = 139 then [.box []] else [] }
set_option maxHeartbeats 8000000 in
theorem f50_ok (s : GState) (a : GAct) (hs : s.Ok) (ha : a.Ok) : FnR Tryz.prog 50 [.agg [.im s.know.length (flat s.know), .im s.tallies.length (flat s.tallies), .im s.lives.length (flat s.lives), .im s.cs.length (flat s.cs)], .agg [.int .i64 a.dot.rep, .int .i64 a.dot.seq, .int .i64 a.time, .im a.knew.length (flat a.knew), .int .i64 a.kind, .str a.obj, .str a.key, .int .i64 a.val, .int .i64 a.ref.rep, .int .i64 a.ref.seq]] (.tup [.agg [.ow 3 1 ((doAct s a).1).know.length (flat ((doAct s a).1).know), .ow 179 3 ((doAct s a).1).tallies.length (flat ((doAct s a).1).tallies), .ow 182 6 ((doAct s a).1).lives.length (flat ((doAct s a).1).lives), .ow 185 8 ((doAct s a).1).cs.length (flat ((doAct s a).1).cs)], .v (.int .i64 ((doAct s a).2))]) := by
  have hs2 := hs
  have ha2 := ha
  simp only [GState.Ok] at hs2
  simp only [GAct.Ok] at ha2
  refine FnW.of_AW TryzT_ok 0 (fn := Tryz.f50) (by kernel_rfl) rfl (by kernel_rfl) rfl rfl rfl ?_; refine AW_of h50 TryzT_ok (by kernel_rfl) ?_
  simp -dsimp
  refine ACallK_of (f102_ok _ hs) ?_
  simp -dsimp
  refine ACallK_of (f132_ok _ hs) ?_
  rw [stateOkS_eq]
  cases ks : stateOk s
  · simp -dsimp
    simp [doAct, ks]
  have sl := stateOk_len ks
  simp -dsimp
  refine ACallK_of (f136_ok _ ha) ?_
  cases ka : actOk a
  · simp -dsimp
    simp [doAct, ks, ka]
  simp -dsimp
  refine ACallK_of (f137_ok _ _ hs2.1) ?_
  cases k1 : knows s.know a.dot
  case true =>
    simp -dsimp
    simp [doAct, ks, ka, k1]
  simp -dsimp
  refine ACallK_of (f134_ok _ _ ha2.1 hs2.1) ?_
  cases k2 : knowIn a.knew s.know
  · simp -dsimp
    simp [doAct, ks, ka, k1, k2]
  simp -dsimp
  refine ACallK_of (f138_ok s a hs2.2.2.2.2.2.1) ?_
  cases k3 : actRefOk s a
  · simp -dsimp
    simp [doAct, ks, ka, k1, k2, k3]
  have F := actF_of ks ka k3
  simp -dsimp
  refine ACallW_args (by intro us; simp -dsimp; exact ⟨rfl, rfl, rfl⟩) ?_
  refine ACallC_of (fun us => f139_ok s a hs F ha2.1 sl.1 sl.2.1 sl.2.2) (by intro us; simp -dsimp; exact ⟨rfl, rfl⟩) ?_
  have hdd : doAct s a = if tooMany (doneAct s a) = true then (s, 4) else (doneAct s a, 0) := by simp [doAct, ks, ka, k1, k2, k3]
  rw [hdd]
  clear hdd
  generalize doneAct s a = R at *
  by_cases h1 : 120 < R.tallies.length
  · have h1' : (120 : Int) < R.tallies.length := by omega
    simp -dsimp [h1']
    refine ACallK_of (f102_ok _ hs) ?_
    simp -dsimp
    simp [tooMany, h1]
  have h1' : ¬ (120 : Int) < R.tallies.length := by omega
  by_cases h2 : 120 < R.lives.length
  · have h2' : (120 : Int) < R.lives.length := by omega
    simp -dsimp [h1', h2']
    refine ACallK_of (f102_ok _ hs) ?_
    simp -dsimp
    simp [tooMany, h2]
  have h2' : ¬ (120 : Int) < R.lives.length := by omega
  by_cases h3 : 120 < R.cs.length
  · have h3' : (120 : Int) < R.cs.length := by omega
    simp -dsimp [h1', h2', h3']
    refine ACallK_of (f102_ok _ hs) ?_
    simp -dsimp
    simp [tooMany, h3]
  have h3' : ¬ (120 : Int) < R.cs.length := by omega
  have k3 : tooMany R = false := by simp [tooMany, h1, h2, h3]
  simp -dsimp [h1', h2', h3']
  simp [k3]
end Am
namespace Am
open Go Go.Proofs
open Cel (cells)
set_option maxRecDepth 100000
set_option linter.unusedSimpArgs false
set_option linter.unusedVariables false

theorem stateOk_cellsK {s : GState} (h : stateOk s = true) : ∀ x, x ∈ s.cs → knows s.know x.dot = true := by
  have hk : celKsOk s.cs s.know = true := by
    simp only [stateOk, Bool.and_eq_true] at h; exact h.1.2
  simp only [celKsOk, Bool.and_eq_true] at hk
  have h2 := allB_iff.1 hk.2
  intro x hx
  obtain ⟨i, hi, rfl⟩ := mem_nth hx
  have h3 := h2 i hi
  simp only [celKAt, Bool.and_eq_true] at h3
  exact h3.1.1
theorem actOk_ref {a : GAct} (h : actOk a = true) : (a.kind ≠ 6 → a.kind ≠ 7 → a.ref = zeroDot) ∧ (a.kind = 7 → a.ref ≠ zeroDot) := by
  simp only [actOk, Bool.and_eq_true] at h
  have h6 := h.2
  simp only [actRef, refZ, beq_iff_eq] at h6
  refine ⟨fun n6 n7 => ?_, fun e7 => ?_⟩
  · rw [if_neg n7, if_neg n6] at h6
    simp only [Bool.and_eq_true, beq_iff_eq] at h6
    exact GDot.ext h6.1 h6.2
  · rw [if_pos e7] at h6
    intro e
    rw [e] at h6
    simp [knows, dotOk, spIn, zeroDot] at h6

@[simp] def h58 : Hts := { merge := fun _ => false, mergeF := fun _ => false, dr := fun id => if id = 9 then [{}, {}, {}, {}, {}, {}, {}, {}, {}, {}, {}, {}, {}, {}, {}, {}, {}, {}, {}, {}, {}, {}, {}, {}, {}, {}, {}, {}, {}, {}, {}, {}, {}, {}, {}] else [] }
set_option maxHeartbeats 8000000 in
theorem f58_ok (s : GState) (a : GAct) (hs : s.Ok) (ha : a.Ok) : FnR Tryz.prog 58 [.agg [.im s.know.length (flat s.know), .im s.tallies.length (flat s.tallies), .im s.lives.length (flat s.lives), .im s.cs.length (flat s.cs)], .agg [.int .i64 a.dot.rep, .int .i64 a.dot.seq, .int .i64 a.time, .im a.knew.length (flat a.knew), .int .i64 a.kind, .str a.obj, .str a.key, .int .i64 a.val, .int .i64 a.ref.rep, .int .i64 a.ref.seq]] (.tup [.agg [.ow 3 1 ((doAct s a).1).know.length (flat ((doAct s a).1).know), .ow 179 3 ((doAct s a).1).tallies.length (flat ((doAct s a).1).tallies), .ow 182 6 ((doAct s a).1).lives.length (flat ((doAct s a).1).lives), .ow 185 8 ((doAct s a).1).cs.length (flat ((doAct s a).1).cs)], .v (.int .i64 ((doAct s a).2))]) := by
  obtain ⟨dot, time, knew, kind, obj, key, val, ref⟩ := a
  have hs2 := hs
  have ha2 := ha
  simp only [GState.Ok] at hs2
  simp only [GAct.Ok] at ha2
  refine FnW.of_AW TryzT_ok 0 (fn := Tryz.f58) (by kernel_rfl) rfl (by kernel_rfl) rfl rfl rfl ?_; refine AW_of h58 TryzT_ok (by kernel_rfl) ?_
  simp -dsimp
  refine ACallK_of (f110_ok _ hs) ?_
  simp -dsimp
  refine ACallK_of (f145_ok _ hs) ?_
  rw [stateOkM_eq]
  cases ks : stateOk s
  · simp -dsimp
    simp [doAct, ks]
  have sl := stateOk_len ks
  simp -dsimp
  refine ACallK_of (f157_ok ⟨dot, time, knew, kind, obj, key, val, ref⟩ ha) ?_
  cases ka : actOk ⟨dot, time, knew, kind, obj, key, val, ref⟩
  · simp -dsimp
    simp [doAct, ks, ka]
  simp -dsimp
  refine ACallK_of (f151_ok _ _ hs2.1) ?_
  cases k1 : knows s.know dot
  case true =>
    simp -dsimp
    simp [doAct, ks, ka, k1]
  simp -dsimp
  refine ACallK_of (f147_ok _ _ ha2.1 hs2.1) ?_
  cases k2 : knowIn knew s.know
  · simp -dsimp
    simp [doAct, ks, ka, k1, k2]
  simp -dsimp
  refine ACallK_of (f158_ok s ref hs2.2.2.2.2.2.1) ?_
  obtain ⟨rf1, rf2⟩ := actOk_ref ka
  simp only at rf1 rf2
  have hfin : actRefOk s ⟨dot, time, knew, kind, obj, key, val, ref⟩ = true → doAct s ⟨dot, time, knew, kind, obj, key, val, ref⟩ = if tooMany (doneAct s ⟨dot, time, knew, kind, obj, key, val, ref⟩) = true then (s, 4) else (doneAct s ⟨dot, time, knew, kind, obj, key, val, ref⟩, 0) := fun k3 => by simp [doAct, ks, ka, k1, k2, k3]
  have hbad : actRefOk s ⟨dot, time, knew, kind, obj, key, val, ref⟩ = false → doAct s ⟨dot, time, knew, kind, obj, key, val, ref⟩ = (s, 3) := fun k3 => by simp [doAct, ks, ka, k1, k2, k3]
  obtain ⟨lv1, lv2⟩ := stateOk_lives ks
  have lvn : ∀ y, y ∈ s.lives → y.dot ≠ dot := fun y hy e => by have := lv2 y hy; rw [e, k1] at this; cases this
  have lvc : ∀ m y, y ∈ clearK m obj key knew s.lives s.lives.length → y.dot ≠ dot := by
    intro m y hy
    rcases (filK_mem (Nat.le_refl _)).1 hy with h | ⟨i, hi, rfl, _⟩
    · cases h
    · exact lvn _ (nth_mem hi)
  have cvn : ∀ y, y ∈ s.cs → y.dot ≠ dot := fun y hy e => by have := stateOk_cellsK ks y hy; rw [e, k1] at this; cases this
  have hkl := clearK_len false obj key knew s.lives s.lives.length
  have hkl2 := clearK_len true obj key knew s.lives s.lives.length
  have hkind : 1 ≤ kind ∧ kind ≤ 7 := by
    simp only [actOk, plain, spIn, Bool.and_eq_true, decide_eq_true_eq] at ka
    omega
  obtain rfl | rfl | rfl | rfl | rfl | rfl | rfl : kind = 1 ∨ kind = 2 ∨ kind = 3 ∨ kind = 4 ∨ kind = 5 ∨ kind = 6 ∨ kind = 7 := by omega
  · obtain rfl : ref = ⟨0, 0⟩ := rf1 (by omega) (by omega)
    have k3 : actRefOk s ⟨dot, time, knew, 1, obj, key, val, ⟨0, 0⟩⟩ = true := by simp [actRefOk]
    have F := actF_of ks ka k3
    obtain ⟨f0, f1, _, _, f4, f5, f6⟩ := F
    simp only at f0 f1 f4 f5 f6
    have er : doneAct s ⟨dot, time, knew, 1, obj, key, val, ⟨0, 0⟩⟩ = ⟨s.know.set dot.rep.toNat dot.seq, addT s.tallies obj dot.rep val, s.lives, s.cs⟩ := by simp [doneAct]
    rw [hfin k3, er]
    have htm := f156_ok ⟨s.know.set dot.rep.toNat dot.seq, addT s.tallies obj dot.rep val, s.lives, s.cs⟩
    simp only [List.length_set] at htm
    simp -dsimp
    repeat (first | refine ⟨by omega, ?_⟩ | refine ⟨by simp [capMax]; omega, ?_⟩ | refine ⟨⟨by omega, by omega⟩, ?_⟩)
    refine ACallK_of (f110_ok _ hs) ?_
    simp -dsimp [f0, f1, ne_of_lt f1]
    repeat (first | refine ⟨by omega, ?_⟩ | refine ⟨by simp [capMax]; omega, ?_⟩ | refine ⟨⟨by omega, by omega⟩, ?_⟩)
    refine ACallK_of (f159_ok _ _ _ _ (by omega) (stateOk_tallies ks) f4 f5) ?_
    simp -dsimp
    refine ACallK_of (htm) ?_
    cases k4 : tooMany ⟨s.know.set dot.rep.toNat dot.seq, addT s.tallies obj dot.rep val, s.lives, s.cs⟩
    · simp -dsimp
    · simp -dsimp
  · obtain rfl : ref = ⟨0, 0⟩ := rf1 (by omega) (by omega)
    have k3 : actRefOk s ⟨dot, time, knew, 2, obj, key, val, ⟨0, 0⟩⟩ = true := by simp [actRefOk]
    have F := actF_of ks ka k3
    obtain ⟨f0, f1, _, _, f4, f5, f6⟩ := F
    simp only at f0 f1 f4 f5 f6
    have er : doneAct s ⟨dot, time, knew, 2, obj, key, val, ⟨0, 0⟩⟩ = ⟨s.know.set dot.rep.toNat dot.seq, s.tallies, insF liveLt ⟨false, obj, key, 0, dot⟩ s.lives, s.cs⟩ := by simp [doneAct]
    rw [hfin k3, er]
    have htm := f156_ok ⟨s.know.set dot.rep.toNat dot.seq, s.tallies, insF liveLt ⟨false, obj, key, 0, dot⟩ s.lives, s.cs⟩
    simp only [List.length_set] at htm
    simp -dsimp
    repeat (first | refine ⟨by omega, ?_⟩ | refine ⟨by simp [capMax]; omega, ?_⟩ | refine ⟨⟨by omega, by omega⟩, ?_⟩)
    refine ACallK_of (f110_ok _ hs) ?_
    simp -dsimp [f0, f1, ne_of_lt f1]
    repeat (first | refine ⟨by omega, ?_⟩ | refine ⟨by simp [capMax]; omega, ?_⟩ | refine ⟨⟨by omega, by omega⟩, ?_⟩)
    refine ACallK_of (f160_ok s.lives ⟨false, obj, key, 0, dot⟩ (by omega) lvn) ?_
    simp -dsimp
    refine ACallK_of (htm) ?_
    cases k4 : tooMany ⟨s.know.set dot.rep.toNat dot.seq, s.tallies, insF liveLt ⟨false, obj, key, 0, dot⟩ s.lives, s.cs⟩
    · simp -dsimp
    · simp -dsimp
  · obtain rfl : ref = ⟨0, 0⟩ := rf1 (by omega) (by omega)
    have k3 : actRefOk s ⟨dot, time, knew, 3, obj, key, val, ⟨0, 0⟩⟩ = true := by simp [actRefOk]
    have F := actF_of ks ka k3
    obtain ⟨f0, f1, _, _, f4, f5, f6⟩ := F
    simp only at f0 f1 f4 f5 f6
    have er : doneAct s ⟨dot, time, knew, 3, obj, key, val, ⟨0, 0⟩⟩ = ⟨s.know.set dot.rep.toNat dot.seq, s.tallies, clearK false obj key knew s.lives s.lives.length, s.cs⟩ := by simp [doneAct]
    rw [hfin k3, er]
    have htm := f156_ok ⟨s.know.set dot.rep.toNat dot.seq, s.tallies, clearK false obj key knew s.lives s.lives.length, s.cs⟩
    simp only [List.length_set] at htm
    simp -dsimp
    repeat (first | refine ⟨by omega, ?_⟩ | refine ⟨by simp [capMax]; omega, ?_⟩ | refine ⟨⟨by omega, by omega⟩, ?_⟩)
    refine ACallK_of (f110_ok _ hs) ?_
    simp -dsimp [f0, f1, ne_of_lt f1]
    repeat (first | refine ⟨by omega, ?_⟩ | refine ⟨by simp [capMax]; omega, ?_⟩ | refine ⟨⟨by omega, by omega⟩, ?_⟩)
    refine ACallK_of (f161_ok s.lives false ⟨dot, time, knew, 3, obj, key, val, ⟨0, 0⟩⟩ (by omega) ha2.1) ?_
    simp -dsimp
    refine ACallK_of (htm) ?_
    cases k4 : tooMany ⟨s.know.set dot.rep.toNat dot.seq, s.tallies, clearK false obj key knew s.lives s.lives.length, s.cs⟩
    · simp -dsimp
    · simp -dsimp
  · obtain rfl : ref = ⟨0, 0⟩ := rf1 (by omega) (by omega)
    have k3 : actRefOk s ⟨dot, time, knew, 4, obj, key, val, ⟨0, 0⟩⟩ = true := by simp [actRefOk]
    have F := actF_of ks ka k3
    obtain ⟨f0, f1, _, _, f4, f5, f6⟩ := F
    simp only at f0 f1 f4 f5 f6
    have er : doneAct s ⟨dot, time, knew, 4, obj, key, val, ⟨0, 0⟩⟩ = ⟨s.know.set dot.rep.toNat dot.seq, s.tallies, insF liveLt ⟨true, obj, key, val, dot⟩ (clearK true obj key knew s.lives s.lives.length), s.cs⟩ := by simp [doneAct]
    rw [hfin k3, er]
    have htm := f156_ok ⟨s.know.set dot.rep.toNat dot.seq, s.tallies, insF liveLt ⟨true, obj, key, val, dot⟩ (clearK true obj key knew s.lives s.lives.length), s.cs⟩
    simp only [List.length_set] at htm
    simp -dsimp
    repeat (first | refine ⟨by omega, ?_⟩ | refine ⟨by simp [capMax]; omega, ?_⟩ | refine ⟨⟨by omega, by omega⟩, ?_⟩)
    refine ACallK_of (f110_ok _ hs) ?_
    simp -dsimp [f0, f1, ne_of_lt f1]
    repeat (first | refine ⟨by omega, ?_⟩ | refine ⟨by simp [capMax]; omega, ?_⟩ | refine ⟨⟨by omega, by omega⟩, ?_⟩)
    refine ACallK_of (f161_ok s.lives true ⟨dot, time, knew, 4, obj, key, val, ⟨0, 0⟩⟩ (by omega) ha2.1) ?_
    simp -dsimp
    refine ACallK_of (f160_ok (clearK true obj key knew s.lives s.lives.length) ⟨true, obj, key, val, dot⟩ (by omega) (lvc true)) ?_
    simp -dsimp
    refine ACallK_of (htm) ?_
    cases k4 : tooMany ⟨s.know.set dot.rep.toNat dot.seq, s.tallies, insF liveLt ⟨true, obj, key, val, dot⟩ (clearK true obj key knew s.lives s.lives.length), s.cs⟩
    · simp -dsimp
    · simp -dsimp
  · obtain rfl : ref = ⟨0, 0⟩ := rf1 (by omega) (by omega)
    have k3 : actRefOk s ⟨dot, time, knew, 5, obj, key, val, ⟨0, 0⟩⟩ = true := by simp [actRefOk]
    have F := actF_of ks ka k3
    obtain ⟨f0, f1, _, _, f4, f5, f6⟩ := F
    simp only at f0 f1 f4 f5 f6
    have er : doneAct s ⟨dot, time, knew, 5, obj, key, val, ⟨0, 0⟩⟩ = ⟨s.know.set dot.rep.toNat dot.seq, s.tallies, clearK true obj key knew s.lives s.lives.length, s.cs⟩ := by simp [doneAct]
    rw [hfin k3, er]
    have htm := f156_ok ⟨s.know.set dot.rep.toNat dot.seq, s.tallies, clearK true obj key knew s.lives s.lives.length, s.cs⟩
    simp only [List.length_set] at htm
    simp -dsimp
    repeat (first | refine ⟨by omega, ?_⟩ | refine ⟨by simp [capMax]; omega, ?_⟩ | refine ⟨⟨by omega, by omega⟩, ?_⟩)
    refine ACallK_of (f110_ok _ hs) ?_
    simp -dsimp [f0, f1, ne_of_lt f1]
    repeat (first | refine ⟨by omega, ?_⟩ | refine ⟨by simp [capMax]; omega, ?_⟩ | refine ⟨⟨by omega, by omega⟩, ?_⟩)
    refine ACallK_of (f161_ok s.lives true ⟨dot, time, knew, 5, obj, key, val, ⟨0, 0⟩⟩ (by omega) ha2.1) ?_
    simp -dsimp
    refine ACallK_of (htm) ?_
    cases k4 : tooMany ⟨s.know.set dot.rep.toNat dot.seq, s.tallies, clearK true obj key knew s.lives s.lives.length, s.cs⟩
    · simp -dsimp
    · simp -dsimp
  · by_cases rz : ref = zeroDot
    · obtain rfl : ref = ⟨0, 0⟩ := rz
      have k3 : actRefOk s ⟨dot, time, knew, 6, obj, key, val, ⟨0, 0⟩⟩ = true := by simp [actRefOk, zeroDot]
      have F := actF_of ks ka k3
      obtain ⟨f0, f1, _, _, f4, f5, f6⟩ := F
      simp only at f0 f1 f4 f5 f6
      have er : doneAct s ⟨dot, time, knew, 6, obj, key, val, ⟨0, 0⟩⟩ = ⟨s.know.set dot.rep.toNat dot.seq, s.tallies, s.lives, insF cellLt ⟨obj, dot, time, ⟨0, 0⟩, val, false⟩ s.cs⟩ := by simp [doneAct]
      rw [hfin k3, er]
      have htm := f156_ok ⟨s.know.set dot.rep.toNat dot.seq, s.tallies, s.lives, insF cellLt ⟨obj, dot, time, ⟨0, 0⟩, val, false⟩ s.cs⟩
      simp only [List.length_set] at htm
      simp -dsimp
      repeat (first | refine ⟨by omega, ?_⟩ | refine ⟨by simp [capMax]; omega, ?_⟩ | refine ⟨⟨by omega, by omega⟩, ?_⟩)
      refine ACallK_of (f110_ok _ hs) ?_
      simp -dsimp [f0, f1, ne_of_lt f1]
      repeat (first | refine ⟨by omega, ?_⟩ | refine ⟨by simp [capMax]; omega, ?_⟩ | refine ⟨⟨by omega, by omega⟩, ?_⟩)
      refine ACallK_of (f162_ok s.cs ⟨obj, dot, time, ⟨0, 0⟩, val, false⟩ (by omega) cvn) ?_
      simp -dsimp
      refine ACallK_of (htm) ?_
      cases k4 : tooMany ⟨s.know.set dot.rep.toNat dot.seq, s.tallies, s.lives, insF cellLt ⟨obj, dot, time, ⟨0, 0⟩, val, false⟩ s.cs⟩
      · simp -dsimp
      · simp -dsimp
    have rz' : (ref.rep == 0 && ref.seq == 0) = false := by
      rw [Bool.eq_false_iff]; intro h; exact rz (by simpa [GDot.ext_iff, zeroDot] using h)
    rcases cellAt_cases s.cs ref with c1 | ⟨j, hj, c1⟩
    · have k3 : actRefOk s ⟨dot, time, knew, 6, obj, key, val, ref⟩ = false := by simp [actRefOk, refAtI, rz, c1]
      rw [hbad k3]
      rw [c1]
      simp -dsimp [rz']
    have jn : ¬ (j : Int) < 0 := by omega
    by_cases o1 : (nth s.cs j).obj = obj
    case neg =>
      have k3 : actRefOk s ⟨dot, time, knew, 6, obj, key, val, ref⟩ = false := by simp [actRefOk, refAtI, rz, c1, o1]
      rw [hbad k3]
      rw [c1]
      simp -dsimp [rz', jn, hj, ne_of_lt hj, o1]
      repeat (first | refine ⟨by omega, ?_⟩ | refine ⟨by simp [capMax]; omega, ?_⟩ | refine ⟨⟨by omega, by omega⟩, ?_⟩)
    rcases Int.lt_or_le (nth s.cs j).time time with t1 | t1
    case inr =>
      have t1' : ¬ (nth s.cs j).time < time := by omega
      have k3 : actRefOk s ⟨dot, time, knew, 6, obj, key, val, ref⟩ = false := by simp [actRefOk, refAtI, rz, c1, o1, t1']
      rw [hbad k3]
      rw [c1]
      simp -dsimp [rz', jn, hj, ne_of_lt hj, eq_true o1, t1]
      repeat (first | refine ⟨by omega, ?_⟩ | refine ⟨by simp [capMax]; omega, ?_⟩ | refine ⟨⟨by omega, by omega⟩, ?_⟩)
    have t1' : ¬ time ≤ (nth s.cs j).time := by omega
    rw [c1]
    have k3 : actRefOk s ⟨dot, time, knew, 6, obj, key, val, ref⟩ = true := by simp [actRefOk, refAtI, rz, c1, o1, t1]
    have F := actF_of ks ka k3
    obtain ⟨f0, f1, _, _, f4, f5, f6⟩ := F
    simp only at f0 f1 f4 f5 f6
    have er : doneAct s ⟨dot, time, knew, 6, obj, key, val, ref⟩ = ⟨s.know.set dot.rep.toNat dot.seq, s.tallies, s.lives, insF cellLt ⟨obj, dot, time, ref, val, false⟩ s.cs⟩ := by simp [doneAct]
    rw [hfin k3, er]
    have htm := f156_ok ⟨s.know.set dot.rep.toNat dot.seq, s.tallies, s.lives, insF cellLt ⟨obj, dot, time, ref, val, false⟩ s.cs⟩
    simp only [List.length_set] at htm
    simp -dsimp [rz', jn, hj, ne_of_lt hj, eq_true o1, t1']
    repeat (first | refine ⟨by omega, ?_⟩ | refine ⟨by simp [capMax]; omega, ?_⟩ | refine ⟨⟨by omega, by omega⟩, ?_⟩)
    refine ACallK_of (f110_ok _ hs) ?_
    simp -dsimp [f0, f1, ne_of_lt f1]
    repeat (first | refine ⟨by omega, ?_⟩ | refine ⟨by simp [capMax]; omega, ?_⟩ | refine ⟨⟨by omega, by omega⟩, ?_⟩)
    refine ACallK_of (f162_ok s.cs ⟨obj, dot, time, ref, val, false⟩ (by omega) cvn) ?_
    simp -dsimp
    refine ACallK_of (htm) ?_
    cases k4 : tooMany ⟨s.know.set dot.rep.toNat dot.seq, s.tallies, s.lives, insF cellLt ⟨obj, dot, time, ref, val, false⟩ s.cs⟩
    · simp -dsimp
    · simp -dsimp
  · have rz := rf2 rfl
    have rz' : (ref.rep == 0 && ref.seq == 0) = false := by
      rw [Bool.eq_false_iff]; intro h; exact rz (by simpa [GDot.ext_iff, zeroDot] using h)
    rcases cellAt_cases s.cs ref with c1 | ⟨j, hj, c1⟩
    · have k3 : actRefOk s ⟨dot, time, knew, 7, obj, key, val, ref⟩ = false := by simp [actRefOk, refAtI, c1]
      rw [hbad k3]
      rw [c1]
      simp -dsimp [rz']
    have jn : ¬ (j : Int) < 0 := by omega
    by_cases o1 : (nth s.cs j).obj = obj
    case neg =>
      have k3 : actRefOk s ⟨dot, time, knew, 7, obj, key, val, ref⟩ = false := by simp [actRefOk, refAtI, c1, o1]
      rw [hbad k3]
      rw [c1]
      simp -dsimp [rz', jn, hj, ne_of_lt hj, o1]
      repeat (first | refine ⟨by omega, ?_⟩ | refine ⟨by simp [capMax]; omega, ?_⟩ | refine ⟨⟨by omega, by omega⟩, ?_⟩)
    rw [c1]
    have k3 : actRefOk s ⟨dot, time, knew, 7, obj, key, val, ref⟩ = true := by simp [actRefOk, refAtI, c1, o1]
    have F := actF_of ks ka k3
    obtain ⟨f0, f1, _, _, f4, f5, f6⟩ := F
    simp only at f0 f1 f4 f5 f6
    have er : doneAct s ⟨dot, time, knew, 7, obj, key, val, ref⟩ = ⟨s.know.set dot.rep.toNat dot.seq, s.tallies, s.lives, s.cs.set j { nth s.cs j with gone := true }⟩ := by simp [doneAct, refAtI, c1]
    rw [hfin k3, er]
    have htm := f156_ok ⟨s.know.set dot.rep.toNat dot.seq, s.tallies, s.lives, s.cs.set j { nth s.cs j with gone := true }⟩
    simp only [List.length_set] at htm
    simp -dsimp [rz', jn, hj, ne_of_lt hj, eq_true o1]
    repeat (first | refine ⟨by omega, ?_⟩ | refine ⟨by simp [capMax]; omega, ?_⟩ | refine ⟨⟨by omega, by omega⟩, ?_⟩)
    refine ACallK_of (f110_ok _ hs) ?_
    simp -dsimp [f0, f1, ne_of_lt f1, hj, ne_of_lt hj]
    repeat (first | refine ⟨by omega, ?_⟩ | refine ⟨by simp [capMax]; omega, ?_⟩ | refine ⟨⟨by omega, by omega⟩, ?_⟩)
    refine ACallK_of (htm) ?_
    cases k4 : tooMany ⟨s.know.set dot.rep.toNat dot.seq, s.tallies, s.lives, s.cs.set j { nth s.cs j with gone := true }⟩
    · simp -dsimp
    · simp -dsimp
end Am
namespace Am
open Go Go.Proofs
open Cel (cells)
set_option maxRecDepth 100000
set_option linter.unusedSimpArgs false
set_option linter.unusedVariables false

def doUnit (s : GState) (u : GUnit) : GState × Int := if u.batch = true then doDelta s u.delta else doAct s u.act
theorem doAct_ok {s : GState} {a : GAct} (hs : s.Ok) (ha : a.Ok) : (doAct s a).1.Ok := by
  unfold doAct
  split
  · exact hs
  rename_i k1
  split
  · exact hs
  split
  · exact hs
  split
  · exact hs
  split
  · exact hs
  split
  · exact hs
  · have sl := stateOk_len (by simpa using k1)
    exact doneAct_ok hs ha sl.1 sl.2.1 sl.2.2
theorem doDelta_ok {s : GState} {d : GDelta} (hs : s.Ok) (hd : d.Ok) : (doDelta s d).1.Ok := by
  unfold doDelta
  split
  · exact hs
  rename_i k1
  split
  · exact hs
  rename_i k2
  split
  · exact hs
  split
  · exact hs
  split
  · exact hs
  split
  · exact hs
  · exact doneRaw_ok hs hd (by simpa using k1) (deltaOk_F (by simpa using k2))
theorem doUnit_ok {s : GState} {u : GUnit} (hs : s.Ok) (hu : u.Ok) : (doUnit s u).1.Ok := by
  simp only [GUnit.Ok] at hu
  unfold doUnit
  split
  · exact doDelta_ok hs hu.2
  · exact doAct_ok hs hu.1

@[simp] def h11 : Hts := {  }
set_option maxHeartbeats 2000000 in
theorem f11_ok (s : GState) (u : GUnit) (hs : s.Ok) (hu : u.Ok) : FnR Tryz.prog 11 [.agg [.im s.know.length (flat s.know), .im s.tallies.length (flat s.tallies), .im s.lives.length (flat s.lives), .im s.cs.length (flat s.cs)], .agg [.bool u.batch, .int .i64 u.act.dot.rep, .int .i64 u.act.dot.seq, .int .i64 u.act.time, .im u.act.knew.length (flat u.act.knew), .int .i64 u.act.kind, .str u.act.obj, .str u.act.key, .int .i64 u.act.val, .int .i64 u.act.ref.rep, .int .i64 u.act.ref.seq, .im u.delta.base.length (flat u.delta.base), .im u.delta.know.length (flat u.delta.know), .im u.delta.tallies.length (flat u.delta.tallies), .im u.delta.lives.length (flat u.delta.lives), .im u.delta.dead.length (flat u.delta.dead), .im u.delta.cs.length (flat u.delta.cs)]] (.tup [.agg [.ow 3 1 ((doUnit s u).1).know.length (flat ((doUnit s u).1).know), .ow 179 3 ((doUnit s u).1).tallies.length (flat ((doUnit s u).1).tallies), .ow 182 6 ((doUnit s u).1).lives.length (flat ((doUnit s u).1).lives), .ow 185 8 ((doUnit s u).1).cs.length (flat ((doUnit s u).1).cs)], .v (.int .i64 ((doUnit s u).2))]) := by
  have hu2 := hu
  simp only [GUnit.Ok] at hu2
  refine FnW.of_AW TryzT_ok 0 (fn := Tryz.f11) (by kernel_rfl) rfl (by kernel_rfl) rfl rfl rfl ?_; refine AW_of h11 TryzT_ok (by kernel_rfl) ?_
  cases g : u.batch
  · simp -dsimp [g]
    refine ACallK_of (f50_ok _ _ hs hu2.1) ?_
    simp -dsimp
    simp [doUnit, g]
  · simp -dsimp [g]
    refine ACallK_of (f49_ok _ _ hs hu2.2) ?_
    simp -dsimp
    simp [doUnit, g]

@[simp] def h14 : Hts := {  }
set_option maxHeartbeats 2000000 in
theorem f14_ok (s : GState) (u : GUnit) (hs : s.Ok) (hu : u.Ok) : FnR Tryz.prog 14 [.agg [.im s.know.length (flat s.know), .im s.tallies.length (flat s.tallies), .im s.lives.length (flat s.lives), .im s.cs.length (flat s.cs)], .agg [.bool u.batch, .int .i64 u.act.dot.rep, .int .i64 u.act.dot.seq, .int .i64 u.act.time, .im u.act.knew.length (flat u.act.knew), .int .i64 u.act.kind, .str u.act.obj, .str u.act.key, .int .i64 u.act.val, .int .i64 u.act.ref.rep, .int .i64 u.act.ref.seq, .im u.delta.base.length (flat u.delta.base), .im u.delta.know.length (flat u.delta.know), .im u.delta.tallies.length (flat u.delta.tallies), .im u.delta.lives.length (flat u.delta.lives), .im u.delta.dead.length (flat u.delta.dead), .im u.delta.cs.length (flat u.delta.cs)]] (.tup [.agg [.ow 3 1 ((doUnit s u).1).know.length (flat ((doUnit s u).1).know), .ow 179 3 ((doUnit s u).1).tallies.length (flat ((doUnit s u).1).tallies), .ow 182 6 ((doUnit s u).1).lives.length (flat ((doUnit s u).1).lives), .ow 185 8 ((doUnit s u).1).cs.length (flat ((doUnit s u).1).cs)], .v (.int .i64 ((doUnit s u).2))]) := by
  have hu2 := hu
  simp only [GUnit.Ok] at hu2
  refine FnW.of_AW TryzT_ok 0 (fn := Tryz.f14) (by kernel_rfl) rfl (by kernel_rfl) rfl rfl rfl ?_; refine AW_of h14 TryzT_ok (by kernel_rfl) ?_
  cases g : u.batch
  · simp -dsimp [g]
    refine ACallK_of (f58_ok _ _ hs hu2.1) ?_
    simp -dsimp
    simp [doUnit, g]
  · simp -dsimp [g]
    refine ACallK_of (f57_ok _ _ hs hu2.2) ?_
    simp -dsimp
    simp [doUnit, g]
end Am
