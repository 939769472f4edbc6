/- An act read, of both. No condition. -/
import Derived.Test.YtkndgnnfgdfcbaaGreatT
import Derived.Test.YtkndgnnfgdfcbaaGreatD
import Derived.Test.YtkndgnnfgdfcbaaGreatE35
import Derived.Test.YtkndgnnfgdfcbaaGreatE37
import Derived.Test.YtkndgnnfgdfcbaaGreatE38
import Derived.Test.YtkndgnnfgdfcbaaGreatE22
import Derived.Test.YtkndgnnfgdfcbaaGreatE24
import Derived.Test.YtkndgnnfgdfcbaaGreatAm31
namespace Am
open Go Go.Proofs
open Cel (cells)
set_option maxRecDepth 100000
set_option linter.unusedSimpArgs false
set_option linter.unusedVariables false

def aS1 (s : GScan) : GScan := (dotM s).2
def aS2 (s : GScan) : GScan := (numM (aS1 s)).2
def aS3 (s : GScan) : GScan := (knowM (aS2 s)).2
def aS4 (s : GScan) : GScan := (numM (aS3 s)).2
def aS5 (s : GScan) : GScan := (shM (aS4 s)).2
def aS6 (s : GScan) : GScan := (shM (aS5 s)).2
def aS7 (s : GScan) : GScan := (numM (aS6 s)).2
def aS8 (s : GScan) : GScan := (dotM (aS7 s)).2
def actM (s : GScan) : GAct × GScan := (⟨(dotM s).1, (numM (aS1 s)).1, (knowM (aS2 s)).1, (numM (aS3 s)).1, (shM (aS4 s)).1, (shM (aS5 s)).1, (numM (aS6 s)).1, (dotM (aS7 s)).1⟩, aS8 s)
theorem actM_rdr : Rdr actM actS := (dotM_rdr.two (numM_rdr.two (knowM_rdr.two (numM_rdr.two (shM_rdr.two (shM_rdr.two (numM_rdr.two dotM_rdr))))))).to (fun x => ⟨x.1, x.2.1, x.2.2.1, x.2.2.2.1, x.2.2.2.2.1, x.2.2.2.2.2.1, x.2.2.2.2.2.2.1, x.2.2.2.2.2.2.2⟩) (fun s => rfl) (fun x => rfl)
theorem aS1_t (s : GScan) : (aS1 s).t = s.t := dotM_t s
theorem aS2_t (s : GScan) : (aS2 s).t = s.t := by rw [aS2, numM_t, aS1_t]
theorem aS3_t (s : GScan) : (aS3 s).t = s.t := by rw [aS3, knowM_t, aS2_t]
theorem aS4_t (s : GScan) : (aS4 s).t = s.t := by rw [aS4, numM_t, aS3_t]
theorem aS5_t (s : GScan) : (aS5 s).t = s.t := by rw [aS5, shM_t, aS4_t]
theorem aS6_t (s : GScan) : (aS6 s).t = s.t := by rw [aS6, shM_t, aS5_t]
theorem aS7_t (s : GScan) : (aS7 s).t = s.t := by rw [aS7, numM_t, aS6_t]
theorem actM_Ok (s : GScan) : (actM s).1.Ok := by
  have a := kn_len (aS2 s) 3
  have b := shM_size (aS4 s)
  have c := shM_size (aS5 s)
  refine ⟨?_, ?_, ?_⟩
  · show (kn _ 3).1.length ≤ _; omega
  · show (shM _).1.size ≤ _; omega
  · show (shM _).1.size ≤ _; omega
def rdAct (t : ByteArray) (p : Int) : GAct × Int × Bool := if (actM ⟨t, p, false⟩).2.bad = false ∧ actOk (actM ⟨t, p, false⟩).1 = true then ((actM ⟨t, p, false⟩).1, (actM ⟨t, p, false⟩).2.pos, true) else (zeroAct, 0, false)

@[simp] def h136 : Hts := { merge := fun _ => false, lend := fun f => if f = 134 ∨ f = 130 ∨ f = 177 ∨ f = 178 then [.box []] else [] }
set_option maxHeartbeats 2000000 in
theorem f136_ok (s : GScan) (ht : s.t.size ≤ 1073741824) : FnW Tryz.prog 136 [.ptr [.str (s).t, .int .i64 (s).pos, .bool (s).bad]] (.agg [.int .i64 ((actM s).1).dot.rep, .int .i64 ((actM s).1).dot.seq, .int .i64 ((actM s).1).time, .ow 3 1 ((actM s).1).knew.length (flat ((actM s).1).knew), .int .i64 ((actM s).1).kind, .str ((actM s).1).obj, .str ((actM s).1).key, .int .i64 ((actM s).1).val, .int .i64 ((actM s).1).ref.rep, .int .i64 ((actM s).1).ref.seq]) [.ptr [.str ((actM s).2).t, .int .i64 ((actM s).2).pos, .bool ((actM s).2).bad]] := by
  refine FnW.of_AW TryzT_ok 1 (fn := Tryz.f136) (by kernel_rfl) rfl (by kernel_rfl) rfl rfl rfl ?_
  refine AW_of h136 TryzT_ok (by kernel_rfl) ?_
  simp -dsimp
  refine ACallW_args (by intro us; simp -dsimp; exact ⟨rfl, rfl, rfl⟩) ?_
  refine ACallC_of (fun us => f134_ok (s) (by exact ht)) (by intro us; simp -dsimp; exact ⟨rfl, rfl⟩) ?_
  simp -dsimp
  refine ACallW_args (by intro us; simp -dsimp; exact ⟨rfl, rfl, rfl⟩) ?_
  refine ACallC_of (fun us => f177_ok (aS1 s) (by rw [aS1_t]; exact ht)) (by intro us; simp -dsimp; exact ⟨rfl, rfl⟩) ?_
  simp -dsimp
  refine ACallW_args (by intro us; simp -dsimp; exact ⟨rfl, rfl, rfl⟩) ?_
  refine ACallC_of (fun us => f130_ok (aS2 s) (by rw [aS2_t]; exact ht)) (by intro us; simp -dsimp; exact ⟨rfl, rfl⟩) ?_
  simp -dsimp
  refine ACallW_args (by intro us; simp -dsimp; exact ⟨rfl, rfl, rfl⟩) ?_
  refine ACallC_of (fun us => f177_ok (aS3 s) (by rw [aS3_t]; exact ht)) (by intro us; simp -dsimp; exact ⟨rfl, rfl⟩) ?_
  simp -dsimp
  refine ACallW_args (by intro us; simp -dsimp; exact ⟨rfl, rfl, rfl⟩) ?_
  refine ACallC_of (fun us => f178_ok (aS4 s) (by rw [aS4_t]; exact ht)) (by intro us; simp -dsimp; exact ⟨rfl, rfl⟩) ?_
  simp -dsimp
  refine ACallW_args (by intro us; simp -dsimp; exact ⟨rfl, rfl, rfl⟩) ?_
  refine ACallC_of (fun us => f178_ok (aS5 s) (by rw [aS5_t]; exact ht)) (by intro us; simp -dsimp; exact ⟨rfl, rfl⟩) ?_
  simp -dsimp
  refine ACallW_args (by intro us; simp -dsimp; exact ⟨rfl, rfl, rfl⟩) ?_
  refine ACallC_of (fun us => f177_ok (aS6 s) (by rw [aS6_t]; exact ht)) (by intro us; simp -dsimp; exact ⟨rfl, rfl⟩) ?_
  simp -dsimp
  refine ACallW_args (by intro us; simp -dsimp; exact ⟨rfl, rfl, rfl⟩) ?_
  refine ACallC_of (fun us => f134_ok (aS7 s) (by rw [aS7_t]; exact ht)) (by intro us; simp -dsimp; exact ⟨rfl, rfl⟩) ?_
  simp -dsimp
  exact ⟨⟨rfl, rfl, rfl, ⟨rfl, rfl⟩, rfl, rfl, rfl, rfl, rfl, rfl⟩, rfl, rfl, rfl⟩

@[simp] def h70 : Hts := { merge := fun _ => false, lend := fun f => if f = 136 then [.box []] else [], dr := fun id => if id = 8 then [{}, { mn := [256] }, { mn := [256] }, { mn := [256] }, { mn := [256] }, { wr := [256] }, {}, {}] else [] }
set_option maxHeartbeats 4000000 in
theorem f70_ok (t : ByteArray) (p : Int) (ht : t.size ≤ 1073741824) (h0 : 0 ≤ p) (h1 : p ≤ t.size) : FnR Tryz.prog 70 [.v (.str t), .v (.int .i64 p)] (.tup [.agg [.int .i64 ((rdAct t p).1).dot.rep, .int .i64 ((rdAct t p).1).dot.seq, .int .i64 ((rdAct t p).1).time, .ow 3 1 ((rdAct t p).1).knew.length (flat ((rdAct t p).1).knew), .int .i64 ((rdAct t p).1).kind, .str ((rdAct t p).1).obj, .str ((rdAct t p).1).key, .int .i64 ((rdAct t p).1).val, .int .i64 ((rdAct t p).1).ref.rep, .int .i64 ((rdAct t p).1).ref.seq], .v (.int .i64 ((rdAct t p).2.1)), .v (.bool ((rdAct t p).2.2))]) := by
  have h0' : ¬ p < 0 := by omega
  have h1' : ¬ (t.size : Int) < p := by omega
  have ho := actM_Ok ⟨t, p, false⟩
  have sg := actM_rdr.g ⟨t, p, false⟩ ⟨h0, h1⟩
  have c := f136_ok ⟨t, p, false⟩ ht
  unfold rdAct
  generalize actM ⟨t, p, false⟩ = X at *
  obtain ⟨x, ⟨ft, fp, fb⟩⟩ := X
  simp only at *
  refine FnW.of_AW TryzT_ok 0 (fn := Tryz.f70) (by kernel_rfl) rfl (by kernel_rfl) rfl rfl rfl ?_
  refine AW_of h70 TryzT_ok (by kernel_rfl) ?_
  simp -dsimp [h0', h1']
  refine ACallW_args (by intro us; simp -dsimp; exact ⟨rfl, rfl, rfl⟩) ?_
  refine ACallC_of (fun us => c) (by intro us; simp -dsimp; exact ⟨rfl, rfl⟩) ?_
  simp -dsimp
  refine ACallK_of (f33_ok _ ho) ?_
  cases fb
  · have sg := sg rfl
    have l := sg.l
    have hh := sg.h
    have e := sg.e
    simp only at l hh e
    cases hk : actOk x
    · simp -dsimp
      simp [zeroAct]
    · simp -dsimp [h0, h1, l, hh]
      rw [actT, if_pos hk]
      exact e.symm
  · simp -dsimp
    simp [zeroAct]

@[simp] def h72 : Hts := { merge := fun _ => false, lend := fun f => if f = 137 ∨ f = 139 ∨ f = 138 ∨ f = 140 then [.box []] else [], dr := fun id => if id = 13 then [{}, { mn := [256] }, { mn := [256] }, { mn := [256] }, { mn := [256] }, { wr := [256] }, {}, {}] else [] }
set_option maxHeartbeats 4000000 in
theorem f72_ok (t : ByteArray) (p : Int) (ht : t.size ≤ 1073741824) : FnR Tryz.prog 72 [.v (.str t), .v (.int .i64 p)] (.tup [.agg [.int .i64 ((rdAct t p).1).dot.rep, .int .i64 ((rdAct t p).1).dot.seq, .int .i64 ((rdAct t p).1).time, .ow 3 1 ((rdAct t p).1).knew.length (flat ((rdAct t p).1).knew), .int .i64 ((rdAct t p).1).kind, .str ((rdAct t p).1).obj, .str ((rdAct t p).1).key, .int .i64 ((rdAct t p).1).val, .int .i64 ((rdAct t p).1).ref.rep, .int .i64 ((rdAct t p).1).ref.seq], .v (.int .i64 ((rdAct t p).2.1)), .v (.bool ((rdAct t p).2.2))]) := by
  have ho := actM_Ok ⟨t, p, false⟩
  refine FnW.of_AW TryzT_ok 0 (fn := Tryz.f72) (by kernel_rfl) rfl (by kernel_rfl) rfl rfl rfl ?_
  refine AW_of h72 TryzT_ok (by kernel_rfl) ?_
  simp -dsimp
  refine ACallW_args (by intro us; simp -dsimp; exact ⟨rfl, rfl, rfl⟩) ?_
  refine ACallC_of (fun us => f137_ok (⟨t, p, false⟩) (by exact ht)) (by intro us; simp -dsimp; exact ⟨rfl, rfl⟩) ?_
  simp -dsimp
  refine ACallW_args (by intro us; simp -dsimp; exact ⟨rfl, rfl, rfl⟩) ?_
  refine ACallC_of (fun us => f138_ok (aS1 ⟨t, p, false⟩) (by rw [aS1_t]; exact ht)) (by intro us; simp -dsimp; exact ⟨rfl, rfl⟩) ?_
  simp -dsimp
  refine ACallW_args (by intro us; simp -dsimp; exact ⟨rfl, rfl, rfl⟩) ?_
  refine ACallC_of (fun us => f139_ok (aS2 ⟨t, p, false⟩) (by rw [aS2_t]; exact ht)) (by intro us; simp -dsimp; exact ⟨rfl, rfl⟩) ?_
  simp -dsimp
  refine ACallW_args (by intro us; simp -dsimp; exact ⟨rfl, rfl, rfl⟩) ?_
  refine ACallC_of (fun us => f138_ok (aS3 ⟨t, p, false⟩) (by rw [aS3_t]; exact ht)) (by intro us; simp -dsimp; exact ⟨rfl, rfl⟩) ?_
  simp -dsimp
  refine ACallW_args (by intro us; simp -dsimp; exact ⟨rfl, rfl, rfl⟩) ?_
  refine ACallC_of (fun us => f140_ok (aS4 ⟨t, p, false⟩) (by rw [aS4_t]; exact ht)) (by intro us; simp -dsimp; exact ⟨rfl, rfl⟩) ?_
  simp -dsimp
  refine ACallW_args (by intro us; simp -dsimp; exact ⟨rfl, rfl, rfl⟩) ?_
  refine ACallC_of (fun us => f140_ok (aS5 ⟨t, p, false⟩) (by rw [aS5_t]; exact ht)) (by intro us; simp -dsimp; exact ⟨rfl, rfl⟩) ?_
  simp -dsimp
  refine ACallW_args (by intro us; simp -dsimp; exact ⟨rfl, rfl, rfl⟩) ?_
  refine ACallC_of (fun us => f138_ok (aS6 ⟨t, p, false⟩) (by rw [aS6_t]; exact ht)) (by intro us; simp -dsimp; exact ⟨rfl, rfl⟩) ?_
  simp -dsimp
  refine ACallW_args (by intro us; simp -dsimp; exact ⟨rfl, rfl, rfl⟩) ?_
  refine ACallC_of (fun us => f137_ok (aS7 ⟨t, p, false⟩) (by rw [aS7_t]; exact ht)) (by intro us; simp -dsimp; exact ⟨rfl, rfl⟩) ?_
  unfold rdAct
  cases hb : (dotM (aS7 ⟨t, p, false⟩)).2.bad
  · have hb' : (actM ⟨t, p, false⟩).2.bad = false := hb
    simp -dsimp [hb]
    refine ACallK_of (f103_ok (actM ⟨t, p, false⟩).1 ho) ?_
    cases hk : actOk (actM ⟨t, p, false⟩).1
    · simp -dsimp
      simp [hb', hk, zeroAct]
    · simp -dsimp
      simp [hb', hk]
      exact ⟨⟨rfl, rfl, rfl, ⟨rfl, rfl⟩, rfl, rfl, rfl, rfl, rfl, rfl⟩, rfl⟩
  · have hb' : (actM ⟨t, p, false⟩).2.bad = true := hb
    simp -dsimp [hb]
    simp [hb', zeroAct]
end Am
