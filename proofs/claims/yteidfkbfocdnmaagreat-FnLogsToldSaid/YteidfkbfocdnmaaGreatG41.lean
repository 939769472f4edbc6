/- What a drawn log,right or not,does: the law. No condition. -/
import Derived.Test.YteidfkbfocdnmaaGreatT
import Derived.Test.YteidfkbfocdnmaaGreatD
import Derived.Test.YteidfkbfocdnmaaGreatV30
import Derived.Test.YteidfkbfocdnmaaGreatV20
import Derived.Test.YteidfkbfocdnmaaGreatE93a
set_option linter.unusedSimpArgs false
set_option linter.unusedVariables false
set_option linter.unnecessarySimpa false
set_option linter.unusedSectionVars false
namespace Am
open Go Go.Proofs
open Cel (cells)
set_option maxRecDepth 100000
@[simp] def h90 : Hts := { merge := fun _ => false }
theorem f90_ok (r : Int) : FnR Tryz.prog 90 [.v (.int .i64 r)] (.agg [.int .i64 (logNew r).rep,.int .i64 (logNew r).time,.ow 3 1 (logNew r).state.know.length (flat (logNew r).state.know),.ow 179 3 (logNew r).state.tallies.length (flat (logNew r).state.tallies),.ow 159 6 (logNew r).state.lives.length (flat (logNew r).state.lives),.ow 72 8 (logNew r).state.cs.length (flat (logNew r).state.cs),.ow 99 17 (logNew r).units.length (flatO (logNew r).units),.ow 99 17 (logNew r).waits.length (flatO (logNew r).waits)]) := by
  rw [logNew]
  refine FnW.of_AW TryzT_ok 0 (fn := Tryz.f90) (by kernel_rfl) rfl (by kernel_rfl) rfl rfl rfl ?_; refine AW_of h90 TryzT_ok (by kernel_rfl) ?_
  simp -dsimp
  refine ACallK_of (f230_ok) ?_
  simp -dsimp [stateNew]
theorem wake_Ok {l : GLog} (h : l.Ok) (hl : l.units.length ≤ 60) : (wake l).Ok := by
  have key : ∀ (f : Nat) {l : GLog},l.Ok → l.units.length ≤ 60 → (wakeM f l).Ok := by
    intro f
    induction f with
    | zero => intro l h _; exact h
    | succ f ih =>
      intro l h hl
      obtain ⟨p1,p2⟩ := pass_Ok h hl
      rw [wakeM]
      split
      · exact ih p1 p2
      · exact p1
  exact key _ h hl
theorem heardM_Ok {l : GLog} {u : GUnit} (h : l.Ok) (hu : u.Ok) (hw : l.waits.length ≤ 1000000) : (heardM l u).1.Ok := by
  unfold heardM
  split
  · exact h
  split
  · have h' := h
    simp only [GLog.Ok] at h'
    obtain ⟨h0,h1,h2,h3,h4⟩ := h'
    unfold noteM
    split
    · exact h
    · refine ⟨h0,h1,h2,by simp only [List.length_append,List.length_singleton]; omega,fun y hy => ?_⟩
      rcases List.mem_append.1 hy with hy | hy
      · exact h4 y hy
      · rw [List.mem_singleton.1 hy]; exact hu
  split
  · exact h
  split
  · exact h
  · rename_i hl
    exact wake_Ok (doneM_Ok h hu (by omega)) (by simp only [doneM,List.length_append,List.length_singleton]; omega)
theorem editedM_Ok {l : GLog} {e : GEdit} (h : l.Ok) (o1 : e.obj.size ≤ 1073741824) (o2 : e.key.size ≤ 1073741824) : (editedM l e).1.Ok ∧ (editedM l e).2.1.Ok := by
  have h' := h
  simp only [GLog.Ok] at h'
  obtain ⟨h0,h1,h2,h3,h4⟩ := h'
  have hA : (actOf l.state l.rep (l.time + 1) e).1.Ok := actOf_ok h0 o1 o2
  have hz := actU_Ok zeroAct_Ok
  unfold editedM
  split
  · exact ⟨h,hz⟩
  split
  · exact ⟨h,hz⟩
  split
  · exact ⟨h,hz⟩
  · rename_i hc
    simp only [not_or,Nat.not_le] at hc
    refine ⟨⟨doAct_ok h0 hA,by simp only [List.length_append,List.length_singleton]; omega,fun y hy => ?_,h3,h4⟩,actU_Ok hA⟩
    rcases List.mem_append.1 hy with hy | hy
    · exact h2 y hy
    · rw [List.mem_singleton.1 hy]; exact actU_Ok hA
theorem logA_waits (c : GCur) : (logA c).1.waits.length ≤ 10 := by
  have l2 := (laL_pl c).w
  unfold logA
  repeat' split
  all_goals simp only [List.length_append,List.length_singleton]
  all_goals omega
theorem heP_waits (b : List UInt8) : (heP b).1.waits.length ≤ 10 := by
  have hL : P3 (heS b).lg := logS_pl _ 4
  unfold heP
  split
  · exact logA_waits _
  split
  · have := hL.a.w; simp only; omega
  · have := (hL.get (heR b).1).w; simp only; omega
@[simp] def h10 : Hts := { merge := fun _ => false,mergeF := fun _ => false,own := fun _ => false,dr := fun id => if id = 14 then [{},{},{},{},{},{},{ cr := true },{},{},{},{},{ cr := true },{},{},{},{},{},{},{},{},{},{ cr := true },{},{},{},{},{},{},{},{},{},{ cr := true },{},{},{},{ cr := true },{ mb := [123] },{ cr := true },{},{},{},{},{},{ cr := true },{ mb := [131] },{ mb := [131] },{ cr := true },{},{},{},{ cr := true },{ cr := true },{},{}] else [] }
set_option maxHeartbeats 32000000 in
theorem f10_ok (b : List UInt8) (hb0 : b.length ≤ 9223372036854775807) : FnR Tryz.prog 10 [.v (.im b.length (flat b))] (.v (.bool true)) := by
  refine FnW.of_AW TryzT_ok 0 (fn := Tryz.f10) (by kernel_rfl) rfl (by kernel_rfl) rfl rfl rfl ?_; refine AW_of h10 TryzT_ok (by kernel_rfl) ?_
  simp -dsimp
  refine ACallK_of (f12_ok b) ?_
  by_cases hb : 1048576 < b.length
  · simp -dsimp [hb]
  have hb : b.length ≤ 1048576 := by omega
  have hb' : ¬ 1048576 < b.length := by omega
  simp -dsimp [hb']
  refine ACallK_of (f94_ok b hb) ?_
  obtain ⟨s1,s2,s3⟩ := anyE_sz (curNew b)
  have lO := logA_Ok (anyE (curNew b)).2
  have lp := logA_plain (anyE (curNew b)).2
  generalize (logA (anyE (curNew b)).2).1 = l at *
  generalize (anyE (curNew b)).1 = e at *
  obtain ⟨z1,z2⟩ := editedM_Ok (e := e) lO (by omega) (by omega)
  simp -dsimp
  refine ACallK_of (f95_ok l e lO lp (by omega) (by omega) (by omega)) ?_
  simp -dsimp
  refine ACallK_of (f96_ok l e lO (by omega) (by omega) (by omega)) ?_
  generalize editedM l e = E at *
  obtain ⟨El,Eu,En⟩ := E
  simp only at z1 z2
  simp -dsimp
  refine ACallK_of (f97_ok b hb) ?_
  obtain ⟨y1,y2,y3⟩ := heP_Ok hb
  have y4 := heP_waits b
  generalize heP b = P at *
  obtain ⟨Pl,Pu⟩ := P
  simp only at y1 y2 y3 y4
  have x1 := heardM_Ok y1 y2 (by omega)
  simp -dsimp
  refine ACallK_of (f91_ok Pl Pu y1 y2 y3) ?_
  simp -dsimp
  refine ACallK_of (f88_ok Pl Pu y1 y2) ?_
  generalize heardM Pl Pu = H at *
  obtain ⟨Hl,Hn⟩ := H
  simp only at x1
  simp -dsimp
  refine ACallK_of (f98_ok b hb) ?_
  obtain ⟨w1,w2⟩ := du_Ok hb
  generalize duS b = S at *
  generalize duU b = U at *
  have v1 := doUnit_ok w1 w2
  simp -dsimp
  refine ACallK_of (f99_ok S U w1 w2) ?_
  simp -dsimp
  refine ACallK_of (f100_ok S U w1 w2) ?_
  generalize doUnit S U = X at *
  obtain ⟨Xs,Xn⟩ := X
  simp only at v1
  simp -dsimp
  refine ACallK_of (f101_ok b hb) ?_
  have q1 := logA_Ok (curNew b)
  have q2 := logA_plain (curNew b)
  generalize (logA (curNew b)).1 = Q at *
  simp -dsimp
  refine ACallK_of (f102_ok b hb) ?_
  obtain ⟨u1,u2⟩ := su_Ok hb
  generalize (suA b).1 = A at *
  generalize suB b = B at *
  simp -dsimp
  refine ACallK_of (f93_ok El z1) ?_
  simp -dsimp
  refine ACallK_of (f81_ok Eu Eu z2) ?_
  simp -dsimp
  refine ACallK_of (f93_ok Hl x1) ?_
  simp -dsimp
  refine ACallK_of (f23_ok Xs Xs v1) ?_
  simp -dsimp
  refine ACallK_of (f92_ok Q q1 q2) ?_
  simp -dsimp
  refine ACallK_of (f103_ok Q q1) ?_
  simp -dsimp
  refine ACallK_of (f104_ok A B u1) ?_
  simp -dsimp
  refine ACallK_of (f81_ok A B u1) ?_
  simp -dsimp
  refine ACallK_of (f90_ok 1) ?_
  simp -dsimp
  have hN := logNew_pl 1
  have hk : logOk (logNew 1) = true := by decide
  refine ACallK_of (f92_ok (logNew 1) hN.ok hN.pu) ?_
  rw [hk]
  simp -dsimp
end Am
