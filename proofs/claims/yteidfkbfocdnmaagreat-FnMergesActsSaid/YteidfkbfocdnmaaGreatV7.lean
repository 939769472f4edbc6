/- Drawn: two states that grew from one. No condition. -/
import Derived.Test.YteidfkbfocdnmaaGreatD
import Derived.Test.YteidfkbfocdnmaaGreatU1
import Derived.Test.YteidfkbfocdnmaaGreatV1
import Derived.Test.YteidfkbfocdnmaaGreatT
import Derived.Test.YteidfkbfocdnmaaGreatE16
import Derived.Test.YteidfkbfocdnmaaGreatE93a
import Derived.Test.YteidfkbfocdnmaaGreatAm29
import Derived.Test.YteidfkbfocdnmaaGreatAm31
import Derived.Test.YteidfkbfocdnmaaGreatE76
import Derived.Test.YteidfkbfocdnmaaGreatAm37
namespace Am
open Go
set_option linter.unusedSimpArgs false
set_option linter.unusedVariables false

/-- A step of one's own. -/
def stepD (rep : Int) (s : GState) (c : GCur) : GState × GCur := (if (actOf s rep (timeOf s + 1) (editD c).1).2 = 0 then (doAct s (actOf s rep (timeOf s + 1) (editD c).1).1).1 else s, (editD c).2)
def runK (rep : Int) : Nat → Int → GState → GCur → GState × GCur
  | 0, _, s, c => (s, c)
  | f + 1, i, s, c => if i < (curN c 5).1 then runK rep f (i + 1) (stepD rep s (curN c 5).2).1 (stepD rep s (curN c 5).2).2 else (s, (curN c 5).2)
theorem stepD_ok {c : GCur} (h : c.Ok) (rep : Int) (s : GState) : (stepD rep s c).2.Ok := editD_ok h
theorem stepD_sok {s : GState} (h : SOK s) (rep : Int) (c : GCur) : SOK (stepD rep s c).1 := by
  simp only [stepD]
  split
  · exact sok_of (doAct_sok (of_sok h))
  · exact h
theorem runK_ok (rep : Int) : ∀ (f : Nat) (i : Int) {s : GState} {c : GCur}, SOK s → c.Ok → SOK (runK rep f i s c).1 ∧ (runK rep f i s c).2.Ok
  | 0, _, _, _, hs, hc => ⟨hs, hc⟩
  | f + 1, i, s, c, hs, hc => by
    rw [runK]
    split
    · exact runK_ok rep f (i + 1) (stepD_sok hs rep _) (stepD_ok (curN_ok hc _) rep s)
    · exact ⟨hs, curN_ok hc _⟩
def twoP (c : GCur) : GState × GCur := grownK (curN c 5).2 stateNew (1 + (curN c 5).1).toNat
def twoA (c : GCur) : GState × GCur := runK 0 5 0 (twoP c).1 (twoP c).2
def twoB (c : GCur) : GState × GCur := runK 1 5 0 (twoP c).1 (twoA c).2
theorem twoP_sok (c : GCur) : SOK (twoP c).1 := grownK_sok stateNew_sok _ _
theorem twoP_ok {c : GCur} (h : c.Ok) : (twoP c).2.Ok := grownK_cur (curN_ok h _) _ _
theorem twoA_sok {c : GCur} (h : c.Ok) : SOK (twoA c).1 := (runK_ok 0 5 0 (twoP_sok c) (twoP_ok h)).1
theorem twoA_ok {c : GCur} (h : c.Ok) : (twoA c).2.Ok := (runK_ok 0 5 0 (twoP_sok c) (twoP_ok h)).2
theorem twoB_sok {c : GCur} (h : c.Ok) : SOK (twoB c).1 := (runK_ok 1 5 0 (twoP_sok c) (twoA_ok h)).1
theorem twoB_ok {c : GCur} (h : c.Ok) : (twoB c).2.Ok := (runK_ok 1 5 0 (twoP_sok c) (twoA_ok h)).2
end Am
namespace Am
open Go Go.Proofs
open Cel (cells)
set_option maxRecDepth 100000
set_option linter.unusedSimpArgs false
set_option linter.unusedVariables false

@[simp] def h269 : Hts := { merge := fun _ => false, mergeF := fun _ => false, own := fun d => !(d == 28), lend := fun f => if f = 155 then [.box []] else [], dr := fun id => if id = 1 then [{ mn := [640000], mb := [15, 18, 7] }, { mn := [640000], mb := [15, 18, 7] }, { mb := [7] }, { cr := true, mb := [7] }, { mn := [640000], mb := [18, 7] }, { mb := [15, 7] }, { wr := [640000], cr := true, mb := [7] }, { cr := true, mb := [7] }, { mb := [7] }, { mb := [7] }, { mn := [448], mb := [7] }, { mn := [640000], cr := true, mb := [15, 18, 19] }, { wr := [448] }, {}] else [] }
set_option maxHeartbeats 4000000 in
theorem f269_ok (c : GCur) (hc : c.Ok) (s : GState) (hs : SOK s) (rep : Int) : FnW Tryz.prog 269 [.ptr [.im c.b.length (flat c.b), .int .i64 c.i, .int .i64 c.h], .agg [.im s.know.length (flat s.know), .im s.tallies.length (flat s.tallies), .im s.lives.length (flat s.lives), .im s.cs.length (flat s.cs)], .v (.int .i64 rep)] (.agg [.im ((stepD rep s c).1).know.length (flat ((stepD rep s c).1).know), .im ((stepD rep s c).1).tallies.length (flat ((stepD rep s c).1).tallies), .im ((stepD rep s c).1).lives.length (flat ((stepD rep s c).1).lives), .im ((stepD rep s c).1).cs.length (flat ((stepD rep s c).1).cs)]) [.ptr [.im ((stepD rep s c).2).b.length (flat ((stepD rep s c).2).b), .int .i64 ((stepD rep s c).2).i, .int .i64 ((stepD rep s c).2).h], .any, .any] := by
  have hO := sok_Ok hs
  have hO2 := hO
  simp only [GState.Ok] at hO2
  have ht := timeOf_bd hs
  have wt : IntKind.i64.wrap (timeOf s + 1) = timeOf s + 1 := wrap64 (by omega) (by omega)
  obtain ⟨g1, g2, g3, g4, g5⟩ := editD_good c
  have hAo : (actOf s rep (timeOf s + 1) (editD c).1).1.Ok := actOf_ok hO (by omega) (by omega)
  refine FnW.of_AW TryzT_ok 1 (fn := Tryz.f269) (by kernel_rfl) rfl (by kernel_rfl) rfl rfl rfl ?_; refine AW_of h269 TryzT_ok (by kernel_rfl) ?_
  simp -dsimp
  refine ACallK_of (f135_ok s (by omega)) ?_
  simp -dsimp [wt]
  refine ACallW_args (by intro us; simp -dsimp; exact ⟨rfl, rfl, rfl⟩) ?_
  refine ACallC_of (fun us => f155_ok c hc) (by intro us; simp -dsimp; exact ⟨rfl, rfl⟩) ?_
  simp -dsimp
  refine ACallK_of (f32_ok s rep (timeOf s + 1) (editD c).1 hO (by omega) (by omega) (by omega)) ?_
  by_cases q : (actOf s rep (timeOf s + 1) (editD c).1).2 = 0
  · simp -dsimp [q]
    refine ACallK_of (f37_ok s (actOf s rep (timeOf s + 1) (editD c).1).1 hO hAo) ?_
    simp -dsimp
    simp [stepD, q]
  · simp -dsimp [q]
    simp [stepD, q]

@[simp] def h132 : Hts := { merge := fun _ => false, mergeF := fun _ => false, own := fun d => !(d == 15), lend := fun f => if f = 117 || f = 269 then [.box []] else if f = 268 then [.box [], .lend] else [], dr := fun id => if id = 12 then [{}, { mn := [128] }, { mn := [128, 192] }, { wr := [128] }, { wr := [192] }, { wr := [256] }] else [] }
set_option maxHeartbeats 8000000 in
theorem f132_ok (c : GCur) (hc : c.Ok) : FnW Tryz.prog 132 [.ptr [.im c.b.length (flat c.b), .int .i64 c.i, .int .i64 c.h]] (.tup [.agg [.im ((twoP c).1).know.length (flat ((twoP c).1).know), .im ((twoP c).1).tallies.length (flat ((twoP c).1).tallies), .im ((twoP c).1).lives.length (flat ((twoP c).1).lives), .im ((twoP c).1).cs.length (flat ((twoP c).1).cs)], .agg [.im ((twoA c).1).know.length (flat ((twoA c).1).know), .im ((twoA c).1).tallies.length (flat ((twoA c).1).tallies), .im ((twoA c).1).lives.length (flat ((twoA c).1).lives), .im ((twoA c).1).cs.length (flat ((twoA c).1).cs)], .agg [.im ((twoB c).1).know.length (flat ((twoB c).1).know), .im ((twoB c).1).tallies.length (flat ((twoB c).1).tallies), .im ((twoB c).1).lives.length (flat ((twoB c).1).lives), .im ((twoB c).1).cs.length (flat ((twoB c).1).cs)]]) [.ptr [.im ((twoB c).2).b.length (flat ((twoB c).2).b), .int .i64 ((twoB c).2).i, .int .i64 ((twoB c).2).h]] := by
  have hP := twoP_sok c
  have hA := twoA_sok hc
  have hb := curN_bd c (n := 5) (by decide)
  obtain ⟨m, hm⟩ := Int.eq_ofNat_of_zero_le (by omega : 0 ≤ 1 + (curN c 5).1)
  have w1 : IntKind.i64.wrap (1 + (curN c 5).1) = m := by rw [hm]; exact wrap64 (by omega) (by omega)
  have eP : grownK (curN c 5).2 stateNew m = twoP c := by unfold twoP; rw [hm]; rfl
  refine FnW.of_AW TryzT_ok 1 (fn := Tryz.f132) (by kernel_rfl) rfl (by kernel_rfl) rfl rfl rfl ?_; refine AW_of h132 TryzT_ok (by kernel_rfl) ?_
  simp -dsimp
  refine ACallK_of (f118_ok) ?_
  simp -dsimp
  refine ACallW_args (by intro us; simp -dsimp; exact ⟨rfl, rfl, rfl⟩) ?_
  refine ACallC_of (fun us => f117_ok c hc 5) (by intro us; simp -dsimp; exact ⟨rfl, rfl⟩) ?_
  simp -dsimp [w1]
  refine ACallW_args (by intro us; simp -dsimp; exact ⟨rfl, rfl, rfl⟩) ?_
  refine ACallC_of (fun us => f268_ok (curN c 5).2 (curN_ok hc _) stateNew stateNew_sok m (by omega)) (by intro us; simp -dsimp; exact ⟨rfl, rfl⟩) ?_
  rw [eP]
  simp -dsimp
  refine AWh_loop (fun q : Nat × GState × GCur => q.1 ≤ 4 ∧ SOK q.2.1 ∧ q.2.2.Ok ∧ runK 0 (5 - q.1) q.1 q.2.1 q.2.2 = twoA c) (fun q => mkE [(0, .box 640000 0), (2, .box 128 0), (3, .box 192 0), (4, .box 256 0), (5, .box 320 0), (6, .box 384 0), (7, .box 448 0), (8, .c (.int .i64 q.1))] [(640000, .box [.c (.im q.2.2.b.length (flat q.2.2.b)), .c (.int .i64 q.2.2.i), .c (.int .i64 q.2.2.h)]), (128, .box [.nil, .nil, .nil, .nil]), (192, .box [.nil, .nil, .nil, .nil]), (256, .box [.nil, .nil, .nil, .nil]), (320, .box [.c (.im ((twoP c).1).know.length (flat ((twoP c).1).know)), .c (.im ((twoP c).1).tallies.length (flat ((twoP c).1).tallies)), .c (.im ((twoP c).1).lives.length (flat ((twoP c).1).lives)), .c (.im ((twoP c).1).cs.length (flat ((twoP c).1).cs))]), (384, .box [.c (.im q.2.1.know.length (flat q.2.1.know)), .c (.im q.2.1.tallies.length (flat q.2.1.tallies)), .c (.im q.2.1.lives.length (flat q.2.1.lives)), .c (.im q.2.1.cs.length (flat q.2.1.cs))]), (448, .box [.c (.im ((twoP c).1).know.length (flat ((twoP c).1).know)), .c (.im ((twoP c).1).tallies.length (flat ((twoP c).1).tallies)), .c (.im ((twoP c).1).lives.length (flat ((twoP c).1).lives)), .c (.im ((twoP c).1).cs.length (flat ((twoP c).1).cs))])]) (fun q => 5 - q.1) (0, (twoP c).1, (twoP c).2) (Wk_to [0, 2, 3, 4, 5, 6, 7, 8] [(640000, 640000), (128, 128), (192, 192), (256, 256), (320, 320), (384, 384), (448, 448)] rfl rfl (by simp [twoP])) ⟨by simp, hP, twoP_ok hc, rfl⟩ ?_
  rintro ⟨i, s, d⟩ ⟨hi, hs, hd, hq⟩
  simp only at hi hs hd hq
  refine AW_of h132 TryzT_ok (by kernel_rfl) ?_
  have hb := curN_bd d (n := 5) (by decide)
  have wi : IntKind.i64.wrap ((i : Int) + 1) = i + 1 := wrap64 (by omega) (by omega)
  obtain ⟨f, hf⟩ : ∃ f : Nat, 5 - i = f + 1 := ⟨4 - i, by omega⟩
  rw [hf, runK] at hq
  simp -dsimp
  refine ACallW_args (by intro us; simp -dsimp; exact ⟨rfl, rfl, rfl⟩) ?_
  refine ACallC_of (fun us => f117_ok d hd 5) (by intro us; simp -dsimp; exact ⟨rfl, rfl⟩) ?_
  rcases Int.lt_or_le (i : Int) (curN d 5).1 with h1 | h1
  · rw [if_pos h1] at hq
    simp -dsimp [h1]
    refine ACallW_args (by intro us; simp -dsimp; exact ⟨rfl, rfl, rfl⟩) ?_
    refine ACallC_of (fun us => f269_ok (curN d 5).2 (curN_ok hd _) s hs 0) (by intro us; simp -dsimp; exact ⟨rfl, rfl⟩) ?_
    simp -dsimp [wi]
    exact Back_of (i + 1, (stepD 0 s (curN d 5).2).1, (stepD 0 s (curN d 5).2).2) [0, 2, 3, 4, 5, 6, 7, 8] [(640000, 640000), (128, 128), (192, 192), (256, 256), (320, 320), (384, 384), (448, 448)] rfl rfl (by simp) ⟨by simp only; omega, stepD_sok hs _ _, stepD_ok (curN_ok hd _) _ _, by simp only; rw [← hq]; congr 1; omega⟩ (by simp only; omega)
  have h1' : ¬ (i : Int) < (curN d 5).1 := by omega
  rw [if_neg h1'] at hq
  simp -dsimp [h1']
  have e1 : (twoA c).1 = s := by rw [← hq]
  have e2 : (twoA c).2 = (curN d 5).2 := by rw [← hq]
  rw [← e1, ← e2]
  clear hq h1 h1' hf wi hb hi hs hd
  refine AWh_loop (fun q : Nat × GState × GCur => q.1 ≤ 4 ∧ SOK q.2.1 ∧ q.2.2.Ok ∧ runK 1 (5 - q.1) q.1 q.2.1 q.2.2 = twoB c) (fun q => mkE [(0, .box 640000 0), (2, .box 128 0), (3, .box 192 0), (4, .box 256 0), (5, .box 320 0), (6, .box 384 0), (7, .box 448 0), (9, .c (.int .i64 q.1))] [(640000, .box [.c (.im q.2.2.b.length (flat q.2.2.b)), .c (.int .i64 q.2.2.i), .c (.int .i64 q.2.2.h)]), (128, .box [.nil, .nil, .nil, .nil]), (192, .box [.nil, .nil, .nil, .nil]), (256, .box [.nil, .nil, .nil, .nil]), (320, .box [.c (.im ((twoP c).1).know.length (flat ((twoP c).1).know)), .c (.im ((twoP c).1).tallies.length (flat ((twoP c).1).tallies)), .c (.im ((twoP c).1).lives.length (flat ((twoP c).1).lives)), .c (.im ((twoP c).1).cs.length (flat ((twoP c).1).cs))]), (384, .box [.c (.im ((twoA c).1).know.length (flat ((twoA c).1).know)), .c (.im ((twoA c).1).tallies.length (flat ((twoA c).1).tallies)), .c (.im ((twoA c).1).lives.length (flat ((twoA c).1).lives)), .c (.im ((twoA c).1).cs.length (flat ((twoA c).1).cs))]), (448, .box [.c (.im q.2.1.know.length (flat q.2.1.know)), .c (.im q.2.1.tallies.length (flat q.2.1.tallies)), .c (.im q.2.1.lives.length (flat q.2.1.lives)), .c (.im q.2.1.cs.length (flat q.2.1.cs))])]) (fun q => 5 - q.1) (0, (twoP c).1, (twoA c).2) (Wk_to [0, 2, 3, 4, 5, 6, 7, 9] [(640000, 640000), (128, 128), (192, 192), (256, 256), (320, 320), (384, 384), (448, 448)] rfl rfl (by simp)) ⟨by simp, hP, twoA_ok hc, rfl⟩ ?_
  rintro ⟨i, s, d⟩ ⟨hi, hs, hd, hq⟩
  simp only at hi hs hd hq
  refine AW_of h132 TryzT_ok (by kernel_rfl) ?_
  have hb := curN_bd d (n := 5) (by decide)
  have wi : IntKind.i64.wrap ((i : Int) + 1) = i + 1 := wrap64 (by omega) (by omega)
  obtain ⟨f, hf⟩ : ∃ f : Nat, 5 - i = f + 1 := ⟨4 - i, by omega⟩
  rw [hf, runK] at hq
  simp -dsimp
  refine ACallW_args (by intro us; simp -dsimp; exact ⟨rfl, rfl, rfl⟩) ?_
  refine ACallC_of (fun us => f117_ok d hd 5) (by intro us; simp -dsimp; exact ⟨rfl, rfl⟩) ?_
  rcases Int.lt_or_le (i : Int) (curN d 5).1 with h1 | h1
  · rw [if_pos h1] at hq
    simp -dsimp [h1]
    refine ACallW_args (by intro us; simp -dsimp; exact ⟨rfl, rfl, rfl⟩) ?_
    refine ACallC_of (fun us => f269_ok (curN d 5).2 (curN_ok hd _) s hs 1) (by intro us; simp -dsimp; exact ⟨rfl, rfl⟩) ?_
    simp -dsimp [wi]
    exact Back_of (i + 1, (stepD 1 s (curN d 5).2).1, (stepD 1 s (curN d 5).2).2) [0, 2, 3, 4, 5, 6, 7, 9] [(640000, 640000), (128, 128), (192, 192), (256, 256), (320, 320), (384, 384), (448, 448)] rfl rfl (by simp) ⟨by simp only; omega, stepD_sok hs _ _, stepD_ok (curN_ok hd _) _ _, by simp only; rw [← hq]; congr 1; omega⟩ (by simp only; omega)
  have h1' : ¬ (i : Int) < (curN d 5).1 := by omega
  rw [if_neg h1'] at hq
  simp -dsimp [h1']
  have e1 : (twoB c).1 = s := by rw [← hq]
  have e2 : (twoB c).2 = (curN d 5).2 := by rw [← hq]
  rw [← e1, ← e2]
  simp

end Am
namespace Am
open Go Go.Proofs
open Cel (cells)
set_option maxRecDepth 100000
set_option linter.unusedSimpArgs false
set_option linter.unusedVariables false

def dmC (b : List UInt8) : Int × GCur := curN (curNew b) 5
def dmA (b : List UInt8) : GState := if ((dmC b).1 == 0) = true then (anyD (dmC b).2).1 else (twoA (dmC b).2).1
def dmB (b : List UInt8) : GState := if ((dmC b).1 == 0) = true then (anyD (anyD (dmC b).2).2).1 else (twoB (dmC b).2).1
theorem dm_Ok {b : List UInt8} (hb : b.length ≤ 1048576) : (dmA b).Ok ∧ (dmB b).Ok := by
  have c1 : (dmC b).2.Ok := curN_ok (curNew_ok hb) _
  unfold dmA dmB
  split
  · exact ⟨anyD_Ok _, anyD_Ok _⟩
  · exact ⟨sok_Ok (twoA_sok c1), sok_Ok (twoB_sok c1)⟩
@[simp] def h18 : Hts := { merge := fun _ => false, mergeF := fun _ => false, own := fun d => !(d == 14 || d == 17), lend := fun f => if f = 130 || f = 131 || f = 132 then [.box []] else [], dr := fun id => if id = 4 then [{ mn := [640], mb := [17] }, {}, { wr := [640], cr := true }, { wr := [128] }, { wr := [192] }] else if id = 6 then [{}, { mn := [128] }, { wr := [128] }, { wr := [192] }] else [] }
set_option maxHeartbeats 2000000 in
theorem f18_ok (b : List UInt8) (hb : b.length ≤ 1048576) : FnR Tryz.prog 18 [.v (.im b.length (flat b))] (.tup [.agg [.im (dmA b).know.length (flat (dmA b).know), .im (dmA b).tallies.length (flat (dmA b).tallies), .im (dmA b).lives.length (flat (dmA b).lives), .im (dmA b).cs.length (flat (dmA b).cs)], .agg [.im (dmB b).know.length (flat (dmB b).know), .im (dmB b).tallies.length (flat (dmB b).tallies), .im (dmB b).lives.length (flat (dmB b).lives), .im (dmB b).cs.length (flat (dmB b).cs)]]) := by
  have c0 := curNew_ok hb
  have c1 : (curN (curNew b) 5).2.Ok := curN_ok c0 _
  refine FnW.of_AW TryzT_ok 0 (fn := Tryz.f18) (by kernel_rfl) rfl (by kernel_rfl) rfl rfl rfl ?_; refine AW_of h18 TryzT_ok (by kernel_rfl) ?_
  simp -dsimp
  refine ACallK_of (f115_ok b hb) ?_
  simp -dsimp
  refine ACallW_args (by intro us; simp -dsimp; exact ⟨rfl, rfl, rfl⟩) ?_
  refine ACallC_of (fun us => f130_ok (curNew b) c0 5) (by intro us; simp -dsimp; exact ⟨rfl, rfl⟩) ?_
  cases q : ((curN (curNew b) 5).1 == 0)
  · simp -dsimp
    refine ACallW_args (by intro us; simp -dsimp; exact ⟨rfl, rfl, rfl⟩) ?_
    refine ACallC_of (fun us => f132_ok (curN (curNew b) 5).2 c1) (by intro us; simp -dsimp; exact ⟨rfl, rfl⟩) ?_
    simp -dsimp
    simp [dmA, dmB, dmC, q]
  · simp -dsimp
    refine ACallW_args (by intro us; simp -dsimp; exact ⟨rfl, rfl, rfl⟩) ?_
    refine ACallC_of (fun us => f131_ok (curN (curNew b) 5).2 c1) (by intro us; simp -dsimp; exact ⟨rfl, rfl⟩) ?_
    simp -dsimp
    refine ACallW_args (by intro us; simp -dsimp; exact ⟨rfl, rfl, rfl⟩) ?_
    refine ACallC_of (fun us => f131_ok (anyD (curN (curNew b) 5).2).2 (anyD_ok c1)) (by intro us; simp -dsimp; exact ⟨rfl, rfl⟩) ?_
    simp -dsimp
    simp [dmA, dmB, dmC, q]

def dbK (b : List UInt8) : Int × GCur := curN (twoB (curNew b)).2 3
def dbA (b : List UInt8) : GState := if (dbK b).1 = 0 then (twoP (curNew b)).1 else if (dbK b).1 = 1 then (twoA (curNew b)).1 else (anyD (dbK b).2).1
def dbB (b : List UInt8) : GState := if (dbK b).1 = 0 then (twoA (curNew b)).1 else if (dbK b).1 = 1 then (twoB (curNew b)).1 else (twoA (curNew b)).1
theorem db_Ok {b : List UInt8} (hb : b.length ≤ 1048576) : (dbA b).Ok ∧ (dbB b).Ok := by
  have c0 := curNew_ok hb
  unfold dbA dbB
  split
  · exact ⟨sok_Ok (twoP_sok _), sok_Ok (twoA_sok c0)⟩
  split
  · exact ⟨sok_Ok (twoA_sok c0), sok_Ok (twoB_sok c0)⟩
  · exact ⟨anyD_Ok _, sok_Ok (twoA_sok c0)⟩
@[simp] def h22 : Hts := { merge := fun _ => false, mergeF := fun _ => false, own := fun d => !(d == 27), lend := fun f => if f = 117 || f = 131 || f = 132 then [.box []] else [], dr := fun id => if id = 5 then [{}, { mn := [128] }, { wr := [128] }, { wr := [192] }] else if id = 7 then [{}, { mn := [128] }, { wr := [128] }, { wr := [192] }] else if id = 8 then [{}, { wr := [576], cr := true }, { mn := [128, 576], mb := [27] }, { wr := [128] }, { wr := [192] }] else [] }
set_option maxHeartbeats 2000000 in
theorem f22_ok (b : List UInt8) (hb : b.length ≤ 1048576) : FnR Tryz.prog 22 [.v (.im b.length (flat b))] (.tup [.agg [.im (dbA b).know.length (flat (dbA b).know), .im (dbA b).tallies.length (flat (dbA b).tallies), .im (dbA b).lives.length (flat (dbA b).lives), .im (dbA b).cs.length (flat (dbA b).cs)], .agg [.im (dbB b).know.length (flat (dbB b).know), .im (dbB b).tallies.length (flat (dbB b).tallies), .im (dbB b).lives.length (flat (dbB b).lives), .im (dbB b).cs.length (flat (dbB b).cs)]]) := by
  have c0 := curNew_ok hb
  have c1 := twoB_ok c0
  have c2 : (curN (twoB (curNew b)).2 3).2.Ok := curN_ok c1 _
  refine FnW.of_AW TryzT_ok 0 (fn := Tryz.f22) (by kernel_rfl) rfl (by kernel_rfl) rfl rfl rfl ?_; refine AW_of h22 TryzT_ok (by kernel_rfl) ?_
  simp -dsimp
  refine ACallK_of (f115_ok b hb) ?_
  simp -dsimp
  refine ACallW_args (by intro us; simp -dsimp; exact ⟨rfl, rfl, rfl⟩) ?_
  refine ACallC_of (fun us => f132_ok (curNew b) c0) (by intro us; simp -dsimp; exact ⟨rfl, rfl⟩) ?_
  simp -dsimp
  refine ACallW_args (by intro us; simp -dsimp; exact ⟨rfl, rfl, rfl⟩) ?_
  refine ACallC_of (fun us => f117_ok (twoB (curNew b)).2 c1 3) (by intro us; simp -dsimp; exact ⟨rfl, rfl⟩) ?_
  by_cases k0 : (curN (twoB (curNew b)).2 3).1 = 0
  · simp -dsimp [k0]
    simp [dbA, dbB, dbK, k0]
  by_cases k1 : (curN (twoB (curNew b)).2 3).1 = 1
  · simp -dsimp [k1]
    simp [dbA, dbB, dbK, k1]
  simp -dsimp [k0, k1]
  refine ACallW_args (by intro us; simp -dsimp; exact ⟨rfl, rfl, rfl⟩) ?_
  refine ACallC_of (fun us => f131_ok (curN (twoB (curNew b)).2 3).2 c2) (by intro us; simp -dsimp; exact ⟨rfl, rfl⟩) ?_
  simp -dsimp
  simp [dbA, dbB, dbK, k0, k1]
end Am
namespace Am
open Go Go.Proofs
open Cel (cells)
set_option maxRecDepth 100000
set_option linter.unusedSimpArgs false
set_option linter.unusedVariables false

end Am
namespace Am
open Go Go.Proofs
open Cel (cells)
set_option maxRecDepth 100000
set_option linter.unusedSimpArgs false
set_option linter.unusedVariables false

def cdK (l : List GAct) (s : GState) : Nat → List Int
  | 0 => []
  | i + 1 => cdK l s i ++ [(doAct (doK l s i) (nth l i)).2]
theorem cdK_len (l : List GAct) (s : GState) : ∀ i, (cdK l s i).length = i
  | 0 => rfl
  | i + 1 => by simp [cdK, cdK_len l s i]
theorem doAct_okW {s : GState} {a : GAct} (hs : s.Ok) (ha : a.Ok) : (doAct s a).1.Ok := by
  by_cases hc : (doAct s a).2 = 0
  · obtain ⟨h1, h2⟩ := done_of hc
    rw [h2]
    exact doneAct_ok hs ha h1.s0.t1 h1.s0.l1 h1.s0.c1
  · rw [doAct_same hc]; exact hs
theorem doK_Ok {l : List GAct} (hl : ∀ a, a ∈ l → a.Ok) {s : GState} (hs : s.Ok) : ∀ i : Nat, i ≤ l.length → (doK l s i).Ok
  | 0, _ => hs
  | i + 1, hi => doAct_okW (doK_Ok hl hs i (by omega)) (hl _ (nth_mem (by omega)))
theorem passK_Ok {l : List GAct} (hl : ∀ a, a ∈ l → a.Ok) {s : GState} (hs : s.Ok) (n : Int) : ∀ i : Nat, i ≤ l.length → (passK l s n i).1.Ok
  | 0, _ => hs
  | i + 1, hi => by
    rw [passK]
    split
    · exact doAct_okW (passK_Ok hl hs n i (by omega)) (hl _ (nth_mem (by omega)))
    · exact passK_Ok hl hs n i (by omega)
theorem passK_n (l : List GAct) (s : GState) (n : Int) : ∀ i : Nat, n ≤ (passK l s n i).2.1 ∧ (passK l s n i).2.1 ≤ n + i
  | 0 => by simp [passK]
  | i + 1 => by
    have := passK_n l s n i
    rw [passK]
    split
    · simp only; omega
    · omega
theorem roundK_Ok {l : List GAct} (hl : ∀ a, a ∈ l → a.Ok) : ∀ k, (roundK l k).1.Ok
  | 0 => stateNew_ok
  | k + 1 => passK_Ok hl (roundK_Ok hl k) _ _ (Nat.le_refl _)
theorem roundK_n (l : List GAct) : ∀ k : Nat, 0 ≤ (roundK l k).2.1 ∧ (roundK l k).2.1 ≤ k * l.length
  | 0 => by simp [roundK]
  | k + 1 => by
    have h1 := roundK_n l k
    have h2 := passK_n l (roundK l k).1 (roundK l k).2.1 l.length
    have e : (roundK l (k + 1)).2.1 = (passK l (roundK l k).1 (roundK l k).2.1 l.length).2.1 := rfl
    have e2 : ((k + 1 : Nat) : Int) * (l.length : Int) = k * l.length + l.length := by push_cast; rw [Int.add_mul, Int.one_mul]
    rw [e, e2]; omega
noncomputable def endK (l : List GAct) : Nat := Classical.choose (roundK_end l)
theorem endK_is (l : List GAct) : endK l ≤ l.length + 1 ∧ (roundK l (endK l)).2.2 = false ∧ ∀ j, j < endK l → (roundK l j).2.2 = true := Classical.choose_spec (roundK_end l)
noncomputable def settled (l : List GAct) : GState × Int := ((roundK l (endK l)).1, (roundK l (endK l)).2.1)


@[simp] def h254 : Hts := { merge := fun _ => false, mergeF := fun _ => false, dr := fun id => if id = 6 then [{ mb := [9] }, { mb := [9] }, { mb := [9] }, { mb := [9] }, { mb := [9] }, { cr := true, mb := [9] }, { mb := [9] }, { mb := [9] }, { mn := [576], mb := [9] }, { cr := true, mb := [26] }, { wr := [576] }, {}] else [] }
set_option maxHeartbeats 8000000 in
theorem f254_ok (s : GState) (l : List GAct) (hs : s.Ok) (hl : ∀ a, a ∈ l → a.Ok) (hn : l.length ≤ 1000000) : FnR Tryz.prog 254 [.agg [.im s.know.length (flat s.know), .im s.tallies.length (flat s.tallies), .im s.lives.length (flat s.lives), .im s.cs.length (flat s.cs)], .v (.im l.length (flat l))] (.tup [.agg [.ow 3 1 (doK l s l.length).know.length (flat (doK l s l.length).know), .ow 179 3 (doK l s l.length).tallies.length (flat (doK l s l.length).tallies), .ow 159 6 (doK l s l.length).lives.length (flat (doK l s l.length).lives), .ow 72 8 (doK l s l.length).cs.length (flat (doK l s l.length).cs)], .v (.ow 3 1 (cdK l s l.length).length (flat (cdK l s l.length)))]) := by
  refine FnW.of_AW TryzT_ok 0 (fn := Tryz.f254) (by kernel_rfl) rfl (by kernel_rfl) rfl rfl rfl ?_; refine AW_of h254 TryzT_ok (by kernel_rfl) ?_
  simp -dsimp
  refine ACallK_of (f147_ok s hs) ?_
  simp -dsimp
  refine AWh_loop (fun i : Nat => i ≤ l.length) (fun i => mkE [(1, .c (.im l.length (flat l))), (4, .box 256 0), (6, .box 384 0), (7, .arr 832), (8, .c (.int .i64 i))] [(256, .box [.nil, .nil, .nil, .nil]), (384, .box [.arr 768, .arr 769, .arr 770, .arr 771]), (768, .arr 0 3 1 (doK l s i).know.length (flat (doK l s i).know)), (769, .arr 0 179 3 (doK l s i).tallies.length (flat (doK l s i).tallies)), (770, .arr 0 159 6 (doK l s i).lives.length (flat (doK l s i).lives)), (771, .arr 0 72 8 (doK l s i).cs.length (flat (doK l s i).cs)), (832, .arr 0 3 1 (cdK l s i).length (flat (cdK l s i)))]) (fun i => l.length - i) 0 (Wk_to [1, 4, 6, 7, 8] [(256, 256), (384, 384), (768, 768), (769, 769), (770, 770), (771, 771), (832, 832)] rfl rfl (by simp [cdK, doK])) (by simp) ?_
  rintro i hi
  have hO := doK_Ok hl hs i hi
  have hcl := cdK_len l s i
  have e1 : doK l s (i + 1) = (doAct (doK l s i) (nth l i)).1 := rfl
  have e2 : cdK l s (i + 1) = cdK l s i ++ [(doAct (doK l s i) (nth l i)).2] := rfl
  have wi : IntKind.i64.wrap ((i : Int) + 1) = i + 1 := wrap64 (by omega) (by omega)
  refine AW_of h254 TryzT_ok (by kernel_rfl) ?_
  rcases Nat.lt_or_ge i l.length with h1 | h1
  · simp -dsimp [h1, ne_of_lt h1]
    repeat (first | refine ⟨by omega, ?_⟩ | refine ⟨by simp [capMax]; omega, ?_⟩ | refine ⟨⟨by omega, by omega⟩, ?_⟩)
    refine ACallK_of (f37_ok (doK l s i) (nth l i) hO (hl _ (nth_mem h1))) ?_
    simp -dsimp [wi]
    repeat (first | refine ⟨by omega, ?_⟩ | refine ⟨by simp [capMax]; omega, ?_⟩ | refine ⟨⟨by omega, by omega⟩, ?_⟩)
    exact Back_of (i + 1) [1, 4, 6, 7, 8] [(256, 256), (384, 384), (768, 1664), (769, 1665), (770, 1666), (771, 1667), (832, 2112)] rfl rfl (by simp [e1, e2]) (by omega) (by omega)
  · obtain rfl : i = l.length := by omega
    simp -dsimp

@[simp] def h15 : Hts := { merge := fun _ => false, mergeF := fun _ => false, dr := fun id => if id = 9 then [{ mb := [8] }, { mb := [8] }, { mb := [8] }, { mb := [8] }, { mb := [8] }, { cr := true, mb := [8] }, { mb := [8] }, { mb := [8] }, { mn := [512], mb := [8] }, { cr := true, mb := [24] }, { wr := [512] }, {}] else [] }
set_option maxHeartbeats 8000000 in
theorem f15_ok (l : List GAct) (hl : ∀ a, a ∈ l → a.Ok) (hn : l.length ≤ 1000000) : FnR Tryz.prog 15 [.v (.im l.length (flat l))] (.tup [.agg [.ow 3 1 ((settled l).1).know.length (flat ((settled l).1).know), .ow 179 3 ((settled l).1).tallies.length (flat ((settled l).1).tallies), .ow 159 6 ((settled l).1).lives.length (flat ((settled l).1).lives), .ow 72 8 ((settled l).1).cs.length (flat ((settled l).1).cs)], .v (.int .i64 ((settled l).2))]) := by
  obtain ⟨n1, n2, n3⟩ := endK_is l
  refine FnW.of_AW TryzT_ok 0 (fn := Tryz.f15) (by kernel_rfl) rfl (by kernel_rfl) rfl rfl rfl ?_; refine AW_of h15 TryzT_ok (by kernel_rfl) ?_
  simp -dsimp
  refine ACallK_of (f118_ok) ?_
  simp -dsimp
  refine AWh_loop (fun k : Nat => k ≤ endK l) (fun k => mkE [(0, .c (.im l.length (flat l))), (2, .box 128 0), (4, .box 256 0), (5, .c (.int .i64 (roundK l k).2.1)), (6, .c (.bool (roundK l k).2.2))] [(128, .box [.nil, .nil, .nil, .nil]), (256, .box [.arr 640, .arr 641, .arr 642, .arr 643]), (640, .arr 0 3 1 (roundK l k).1.know.length (flat (roundK l k).1.know)), (641, .arr 0 179 3 (roundK l k).1.tallies.length (flat (roundK l k).1.tallies)), (642, .arr 0 159 6 (roundK l k).1.lives.length (flat (roundK l k).1.lives)), (643, .arr 0 72 8 (roundK l k).1.cs.length (flat (roundK l k).1.cs))]) (fun k => endK l - k) 0 (Wk_to [0, 2, 4, 5, 6] [(128, 128), (256, 256), (640, 640), (641, 641), (642, 642), (643, 643)] rfl rfl (by simp [roundK, stateNew])) (by simp) ?_
  rintro k hk
  refine AW_of h15 TryzT_ok (by kernel_rfl) ?_
  rcases Nat.lt_or_ge k (endK l) with h1 | h1
  rotate_left
  · obtain rfl : k = endK l := by omega
    simp -dsimp [n2]
    simp [settled]
  have hf := n3 k h1
  have hRO := roundK_Ok hl k
  have hRn := roundK_n l k
  have hkl : k * l.length ≤ 1000001 * 1000000 := Nat.mul_le_mul (by omega) hn
  have hkl' : ((k : Int)) * (l.length : Int) ≤ 1000001000000 := by rw [← Int.natCast_mul]; omega
  have er : roundK l (k + 1) = passK l (roundK l k).1 (roundK l k).2.1 l.length := rfl
  simp -dsimp [hf]
  refine AWh_loop (fun i : Nat => i ≤ l.length) (fun i => mkE [(0, .c (.im l.length (flat l))), (2, .box 128 0), (4, .box 256 0), (5, .c (.int .i64 (passK l (roundK l k).1 (roundK l k).2.1 i).2.1)), (6, .c (.bool (passK l (roundK l k).1 (roundK l k).2.1 i).2.2)), (7, .c (.int .i64 i))] [(128, .box [.nil, .nil, .nil, .nil]), (256, .box [.arr 640, .arr 641, .arr 642, .arr 643]), (640, .arr 0 3 1 (passK l (roundK l k).1 (roundK l k).2.1 i).1.know.length (flat (passK l (roundK l k).1 (roundK l k).2.1 i).1.know)), (641, .arr 0 179 3 (passK l (roundK l k).1 (roundK l k).2.1 i).1.tallies.length (flat (passK l (roundK l k).1 (roundK l k).2.1 i).1.tallies)), (642, .arr 0 159 6 (passK l (roundK l k).1 (roundK l k).2.1 i).1.lives.length (flat (passK l (roundK l k).1 (roundK l k).2.1 i).1.lives)), (643, .arr 0 72 8 (passK l (roundK l k).1 (roundK l k).2.1 i).1.cs.length (flat (passK l (roundK l k).1 (roundK l k).2.1 i).1.cs))]) (fun i => l.length - i) 0 (Wk_to [0, 2, 4, 5, 6, 7] [(128, 128), (256, 256), (640, 640), (641, 641), (642, 642), (643, 643)] rfl rfl (by simp [passK])) (by simp) ?_
  rintro i hi
  have hO := passK_Ok hl hRO (roundK l k).2.1 i hi
  have hpn := passK_n l (roundK l k).1 (roundK l k).2.1 i
  have ep : passK l (roundK l k).1 (roundK l k).2.1 (i + 1) = if (doAct (passK l (roundK l k).1 (roundK l k).2.1 i).1 (nth l i)).2 = 0 then ((doAct (passK l (roundK l k).1 (roundK l k).2.1 i).1 (nth l i)).1, (passK l (roundK l k).1 (roundK l k).2.1 i).2.1 + 1, true) else (passK l (roundK l k).1 (roundK l k).2.1 i) := rfl
  have wi : IntKind.i64.wrap ((i : Int) + 1) = i + 1 := wrap64 (by omega) (by omega)
  have wn : IntKind.i64.wrap ((passK l (roundK l k).1 (roundK l k).2.1 i).2.1 + 1) = (passK l (roundK l k).1 (roundK l k).2.1 i).2.1 + 1 := wrap64 (by omega) (by omega)
  refine AW_of h15 TryzT_ok (by kernel_rfl) ?_
  rcases Nat.lt_or_ge i l.length with h2 | h2
  · simp -dsimp [h2, ne_of_lt h2]
    repeat (first | refine ⟨by omega, ?_⟩ | refine ⟨by simp [capMax]; omega, ?_⟩ | refine ⟨⟨by omega, by omega⟩, ?_⟩)
    refine ACallK_of (f37_ok (passK l (roundK l k).1 (roundK l k).2.1 i).1 (nth l i) hO (hl _ (nth_mem h2))) ?_
    by_cases q : (doAct (passK l (roundK l k).1 (roundK l k).2.1 i).1 (nth l i)).2 = 0
    · rw [if_pos q] at ep
      simp -dsimp [q, wi, wn]
      exact Back_of (i + 1) [0, 2, 4, 5, 6, 7] [(128, 128), (256, 256), (640, 1536), (641, 1537), (642, 1538), (643, 1539)] rfl rfl (by simp [ep]) (by omega) (by omega)
    · rw [if_neg q] at ep
      simp -dsimp [q, wi]
      exact Back_of (i + 1) [0, 2, 4, 5, 6, 7] [(128, 128), (256, 256), (640, 640), (641, 641), (642, 642), (643, 643)] rfl rfl (by simp [ep]) (by omega) (by omega)
  · obtain rfl : i = l.length := by omega
    simp -dsimp
    exact Back_of (k + 1) [0, 2, 4, 5, 6] [(128, 128), (256, 256), (640, 640), (641, 641), (642, 642), (643, 643)] rfl rfl (by simp [er]) (by omega) (by omega)

end Am
namespace Am
open Go Go.Proofs
open Cel (cells)
set_option maxRecDepth 100000
set_option linter.unusedSimpArgs false
set_option linter.unusedVariables false

def get3 (r : Int) (p : GState × GState × GState) : GState := if r = 0 then p.1 else if r = 1 then p.2.1 else p.2.2
def put3 (r : Int) (p : GState × GState × GState) (x : GState) : GState × GState × GState := if r = 0 then (x, p.2.1, p.2.2) else if r = 1 then (p.1, x, p.2.2) else (p.1, p.2.1, x)
structure AS where
  st : GState × GState × GState
  out : List GAct
  c : GCur
def asR (a : AS) : Int × GCur := curN a.c 3
def asO (a : AS) : Int × GCur := curN (asR a).2 3
def asSt (a : AS) : GState × GState × GState := if ((asO a).1 == 0) = true then put3 (asR a).1 a.st (doK a.out (get3 (asR a).1 a.st) a.out.length) else a.st
def asE (a : AS) : GEdit × GCur := editD (asO a).2
def asA (a : AS) : GAct × Int := actOf (get3 (asR a).1 (asSt a)) (asR a).1 (timeOf (get3 (asR a).1 (asSt a)) + 1) (asE a).1
def asN (a : AS) : AS := if (asA a).2 = 0 then ⟨put3 (asR a).1 (asSt a) (doAct (get3 (asR a).1 (asSt a)) (asA a).1).1, a.out ++ [(asA a).1], (asE a).2⟩ else ⟨asSt a, a.out, (asE a).2⟩
def actsK (c : GCur) : Nat → AS
  | 0 => ⟨(stateNew, stateNew, stateNew), [], c⟩
  | i + 1 => asN (actsK c i)
structure ASok (a : AS) (n : Nat) : Prop where
  s0 : SOK a.st.1
  s1 : SOK a.st.2.1
  s2 : SOK a.st.2.2
  o : ∀ x, x ∈ a.out → x.Ok
  n : a.out.length ≤ n
  c : a.c.Ok
theorem doK_sok {l : List GAct} {s : GState} (h : SOK s) : ∀ i, SOK (doK l s i)
  | 0 => h
  | i + 1 => sok_of (doAct_sok (of_sok (doK_sok h i)))
theorem get3_sok {p : GState × GState × GState} (h0 : SOK p.1) (h1 : SOK p.2.1) (h2 : SOK p.2.2) (r : Int) : SOK (get3 r p) := by
  unfold get3
  split
  · exact h0
  split
  · exact h1
  · exact h2
theorem put3_sok {p : GState × GState × GState} (h0 : SOK p.1) (h1 : SOK p.2.1) (h2 : SOK p.2.2) (r : Int) {x : GState} (hx : SOK x) : SOK (put3 r p x).1 ∧ SOK (put3 r p x).2.1 ∧ SOK (put3 r p x).2.2 := by
  unfold put3
  split
  · exact ⟨hx, h1, h2⟩
  split
  · exact ⟨h0, hx, h2⟩
  · exact ⟨h0, h1, hx⟩
theorem asN_ok {a : AS} {n : Nat} (h : ASok a n) : ASok (asN a) (n + 1) := by
  have hS : SOK (asSt a).1 ∧ SOK (asSt a).2.1 ∧ SOK (asSt a).2.2 := by
    unfold asSt
    split
    · exact put3_sok h.s0 h.s1 h.s2 _ (doK_sok (get3_sok h.s0 h.s1 h.s2 _) _)
    · exact ⟨h.s0, h.s1, h.s2⟩
  have hX := get3_sok hS.1 hS.2.1 hS.2.2 (asR a).1
  have hc : (asE a).2.Ok := editD_ok (curN_ok (curN_ok h.c _) _)
  obtain ⟨g1, g2, g3, g4, g5⟩ := editD_good (asO a).2
  have hA : (asA a).1.Ok := actOf_ok (sok_Ok hX) (by show (editD (asO a).2).1.obj.size ≤ _; omega) (by show (editD (asO a).2).1.key.size ≤ _; omega)
  have hn := h.n
  unfold asN
  split
  · obtain ⟨p0, p1, p2⟩ := put3_sok hS.1 hS.2.1 hS.2.2 (asR a).1 (sok_of (doAct_sok (a := (asA a).1) (of_sok hX)))
    refine ⟨p0, p1, p2, fun x hx => ?_, by simp only [List.length_append, List.length_singleton]; omega, hc⟩
    rcases List.mem_append.1 hx with hx | hx
    · exact h.o x hx
    · rw [List.mem_singleton.1 hx]; exact hA
  · exact ⟨hS.1, hS.2.1, hS.2.2, h.o, by show a.out.length ≤ n + 1; omega, hc⟩
theorem actsK_ok {c : GCur} (h : c.Ok) : ∀ i, ASok (actsK c i) i
  | 0 => ⟨stateNew_sok, stateNew_sok, stateNew_sok, by simp [actsK], by simp [actsK], h⟩
  | i + 1 => asN_ok (actsK_ok h i)

@[simp] def h114 : Hts := { merge := fun _ => false, mergeF := fun _ => false, lend := fun f => if f = 117 || f = 130 || f = 155 then [.box []] else [], dr := fun id => if id = 14 then [{ mn := [640000], mb := [58, 61, 12] }, { mn := [640000], mb := [58, 61, 12] }, { mn := [640000], mb := [58, 61, 12] }, { mn := [640000], mb := [58, 61, 12] }, { mn := [640000], mb := [58, 61, 12] }, { mb := [12] }, { mb := [12] }, { mb := [12] }, { mb := [12] }, { cr := true, mb := [12] }, { mn := [640000], mb := [61, 12] }, { mb := [58, 12] }, { wr := [640000], cr := true, mb := [12] }, { cr := true, mb := [12] }, { mb := [12] }, { mb := [12] }, { mn := [768], mb := [12] }, { mn := [640000], cr := true, mb := [58, 61, 62] }, { wr := [768] }, {}] else if id = 16 then [{ mb := [14] }, { mb := [14] }, { mb := [14] }, { mb := [14] }, { mb := [14] }, { cr := true, mb := [14] }, { mb := [14] }, { mb := [14] }, { mn := [896], mb := [14] }, { cr := true, mb := [73] }, { wr := [896] }, {}] else [] }
set_option maxHeartbeats 16000000 in
theorem f114_ok (c : GCur) (hc : c.Ok) (n : Nat) (hn : n ≤ 1000) : FnW Tryz.prog 114 [.ptr [.im c.b.length (flat c.b), .int .i64 c.i, .int .i64 c.h], .v (.int .i64 n)] (.v (.ow 31 10 ((actsK c n).out).length (flatO ((actsK c n).out)))) [.ptr [.im ((actsK c n).c).b.length (flat ((actsK c n).c).b), .int .i64 ((actsK c n).c).i, .int .i64 ((actsK c n).c).h], .any] := by
  refine FnW.of_AW TryzT_ok 1 (fn := Tryz.f114) (by kernel_rfl) rfl (by kernel_rfl) rfl rfl rfl ?_; refine AW_of h114 TryzT_ok (by kernel_rfl) ?_
  simp -dsimp
  refine AWh_loop (fun i : Nat => i ≤ 3) (fun i => mkE [(0, .box 640000 0), (1, .c (.int .i64 n)), (5, .arr 320), (6, .c (.int .i64 i))] [(640000, .box [.c (.im c.b.length (flat c.b)), .c (.int .i64 c.i), .c (.int .i64 c.h)]), (320, .arr 0 36 4 i (List.replicate i [.ow 3 1 stateNew.know.length (flat stateNew.know), .ow 179 3 stateNew.tallies.length (flat stateNew.tallies), .ow 159 6 stateNew.lives.length (flat stateNew.lives), .ow 72 8 stateNew.cs.length (flat stateNew.cs)]).flatten)]) (fun i => 3 - i) 0 (Wk_to [0, 1, 5, 6] [(640000, 640000), (320, 1024)] rfl rfl (by simp)) (by simp) ?_
  rintro i hi
  refine AW_of h114 TryzT_ok (by kernel_rfl) ?_
  have hi4 : i = 0 ∨ i = 1 ∨ i = 2 ∨ i = 3 := by omega
  rcases hi4 with rfl | rfl | rfl | rfl
  · simp -dsimp
    refine ACallK_of (f118_ok) ?_
    simp -dsimp
    refine ⟨by simp [capMax], ?_⟩
    exact Back_of 1 [0, 1, 5, 6] [(640000, 640000), (320, 1536)] rfl rfl (by simp [List.replicate, show IntKind.i64.wrap 1 = 1 from by decide]) (by omega) (by omega)
  · simp -dsimp
    refine ACallK_of (f118_ok) ?_
    simp -dsimp
    refine ⟨by simp [capMax], ?_⟩
    exact Back_of 2 [0, 1, 5, 6] [(640000, 640000), (320, 1536)] rfl rfl (by simp [List.replicate, show IntKind.i64.wrap 2 = 2 from by decide]) (by omega) (by omega)
  · simp -dsimp
    refine ACallK_of (f118_ok) ?_
    simp -dsimp
    refine ⟨by simp [capMax], ?_⟩
    exact Back_of 3 [0, 1, 5, 6] [(640000, 640000), (320, 1536)] rfl rfl (by simp [List.replicate, show IntKind.i64.wrap 3 = 3 from by decide]) (by omega) (by omega)
  simp -dsimp [List.replicate]
  refine AWh_loop (fun i : Nat => i ≤ n) (fun i : Nat => mkE [(0, .box 640000 0), (1, .c (.int .i64 n)), (5, .arr 320), (7, .arr 448), (8, .c (.int .i64 i))] [(640000, .box [.c (.im ((actsK c i).c).b.length (flat ((actsK c i).c).b)), .c (.int .i64 ((actsK c i).c).i), .c (.int .i64 ((actsK c i).c).h)]), (320, .arr 0 36 4 3 [.ow 3 1 ((actsK c i).st.1).know.length (flat ((actsK c i).st.1).know), .ow 179 3 ((actsK c i).st.1).tallies.length (flat ((actsK c i).st.1).tallies), .ow 159 6 ((actsK c i).st.1).lives.length (flat ((actsK c i).st.1).lives), .ow 72 8 ((actsK c i).st.1).cs.length (flat ((actsK c i).st.1).cs), .ow 3 1 ((actsK c i).st.2.1).know.length (flat ((actsK c i).st.2.1).know), .ow 179 3 ((actsK c i).st.2.1).tallies.length (flat ((actsK c i).st.2.1).tallies), .ow 159 6 ((actsK c i).st.2.1).lives.length (flat ((actsK c i).st.2.1).lives), .ow 72 8 ((actsK c i).st.2.1).cs.length (flat ((actsK c i).st.2.1).cs), .ow 3 1 ((actsK c i).st.2.2).know.length (flat ((actsK c i).st.2.2).know), .ow 179 3 ((actsK c i).st.2.2).tallies.length (flat ((actsK c i).st.2.2).tallies), .ow 159 6 ((actsK c i).st.2.2).lives.length (flat ((actsK c i).st.2.2).lives), .ow 72 8 ((actsK c i).st.2.2).cs.length (flat ((actsK c i).st.2.2).cs)]), (448, .arr 0 31 10 (actsK c i).out.length (flatO (actsK c i).out))]) (fun i => n - i) 0 (Wk_to [0, 1, 5, 7, 8] [(640000, 640000), (320, 320), (448, 1600)] rfl rfl (by simp [actsK])) (by simp) ?_
  rintro i hi
  have hA := actsK_ok hc i
  have eN : actsK c (i + 1) = asN (actsK c i) := rfl
  refine AW_of h114 TryzT_ok (by kernel_rfl) ?_
  rcases Nat.lt_or_ge i n with h1 | h1
  rotate_left
  · obtain rfl : i = n := by omega
    simp -dsimp
  have wi : IntKind.i64.wrap ((i : Int) + 1) = i + 1 := wrap64 (by omega) (by omega)
  generalize actsK c i = a at *
  have hN := asN_ok hA
  obtain ⟨⟨p0, p1, p2⟩, out, c1⟩ := a
  obtain ⟨k0, k1, k2, ko, kn, kc⟩ := hA
  simp only at k0 k1 k2 ko kn kc
  have hb := curN_bd c1 (n := 3) (by decide)
  have c2 : (curN c1 3).2.Ok := curN_ok kc _
  have c3 : (curN (curN c1 3).2 3).2.Ok := curN_ok c2 _
  obtain ⟨g1, g2, g3, g4, g5⟩ := editD_good (curN (curN c1 3).2 3).2
  simp -dsimp [h1]
  refine ACallW_args (by intro us; simp -dsimp; exact ⟨rfl, rfl, rfl⟩) ?_
  refine ACallC_of (fun us => f117_ok c1 kc 3) (by intro us; simp -dsimp; exact ⟨rfl, rfl⟩) ?_
  simp -dsimp
  refine ACallW_args (by intro us; simp -dsimp; exact ⟨rfl, rfl, rfl⟩) ?_
  refine ACallC_of (fun us => f130_ok (curN c1 3).2 c2 3) (by intro us; simp -dsimp; exact ⟨rfl, rfl⟩) ?_
  have hr3 : (curN c1 3).1 = 0 ∨ (curN c1 3).1 = 1 ∨ (curN c1 3).1 = 2 := by omega
  rcases hr3 with e | e | e
  · cases q : ((curN (curN c1 3).2 3).1 == 0)
    · have hX : SOK p0 := k0
      have hXO := sok_Ok hX
      have hXO2 := hXO
      simp only [GState.Ok] at hXO2
      have ht := timeOf_bd hX
      have wt : IntKind.i64.wrap (timeOf p0 + 1) = timeOf p0 + 1 := wrap64 (by omega) (by omega)
      simp -dsimp [e]
      repeat (first | refine ⟨by omega, ?_⟩ | refine ⟨by simp [capMax]; omega, ?_⟩ | refine ⟨⟨by omega, by omega⟩, ?_⟩)
      refine ACallK_of (f135_ok p0 (by omega)) ?_
      simp -dsimp [wt, e]
      repeat (first | refine ⟨by omega, ?_⟩ | refine ⟨by simp [capMax]; omega, ?_⟩ | refine ⟨⟨by omega, by omega⟩, ?_⟩)
      refine ACallW_args (by intro us; simp -dsimp; exact ⟨rfl, rfl, rfl⟩) ?_
      refine ACallC_of (fun us => f155_ok (curN (curN c1 3).2 3).2 c3) (by intro us; simp -dsimp; exact ⟨rfl, rfl⟩) ?_
      simp -dsimp [e]
      repeat (first | refine ⟨by omega, ?_⟩ | refine ⟨by simp [capMax]; omega, ?_⟩ | refine ⟨⟨by omega, by omega⟩, ?_⟩)
      refine ACallK_of (f32_ok p0 0 (timeOf p0 + 1) (editD (curN (curN c1 3).2 3).2).1 hXO (by omega) (by omega) (by omega)) ?_
      have hAo : (actOf p0 0 (timeOf p0 + 1) (editD (curN (curN c1 3).2 3).2).1).1.Ok := actOf_ok hXO (by omega) (by omega)
      by_cases qa : (actOf p0 0 (timeOf p0 + 1) (editD (curN (curN c1 3).2 3).2).1).2 = 0
      · have eM : asN ⟨(p0, p1, p2), out, c1⟩ = ⟨((doAct p0 (actOf p0 0 (timeOf p0 + 1) (editD (curN (curN c1 3).2 3).2).1).1).1, p1, p2), out ++ [(actOf p0 0 (timeOf p0 + 1) (editD (curN (curN c1 3).2 3).2).1).1], (editD (curN (curN c1 3).2 3).2).2⟩ := by
          simp [asN, asA, asSt, asO, asR, asE, get3, put3, e, q, qa]
        generalize actOf p0 0 (timeOf p0 + 1) (editD (curN (curN c1 3).2 3).2).1 = A at *
        simp -dsimp [qa, e]
        repeat (first | refine ⟨by omega, ?_⟩ | refine ⟨by simp [capMax]; omega, ?_⟩ | refine ⟨⟨by omega, by omega⟩, ?_⟩)
        refine ACallK_of (f37_ok p0 A.1 hXO hAo) ?_
        simp -dsimp [e, wi]
        repeat (first | refine ⟨by omega, ?_⟩ | refine ⟨by simp [capMax]; omega, ?_⟩ | refine ⟨⟨by omega, by omega⟩, ?_⟩)
        exact Back_of (i + 1) [0, 1, 5, 7, 8] [(640000, 640000), (320, 320), (448, 5312)] rfl rfl (by simp [eN, eM]) (by omega) (by omega)
      · have eM : asN ⟨(p0, p1, p2), out, c1⟩ = ⟨(p0, p1, p2), out, (editD (curN (curN c1 3).2 3).2).2⟩ := by
          simp [asN, asA, asSt, asO, asR, asE, get3, put3, e, q, qa]
        generalize actOf p0 0 (timeOf p0 + 1) (editD (curN (curN c1 3).2 3).2).1 = A at *
        simp -dsimp [qa, e, wi]
        repeat (first | refine ⟨by omega, ?_⟩ | refine ⟨by simp [capMax]; omega, ?_⟩ | refine ⟨⟨by omega, by omega⟩, ?_⟩)
        exact Back_of (i + 1) [0, 1, 5, 7, 8] [(640000, 640000), (320, 320), (448, 448)] rfl rfl (by simp [eN, eM]) (by omega) (by omega)
    · have hX : SOK (doK out p0 out.length) := (doK_sok k0 out.length)
      have hXO := sok_Ok hX
      have hXO2 := hXO
      simp only [GState.Ok] at hXO2
      have ht := timeOf_bd hX
      have wt : IntKind.i64.wrap (timeOf (doK out p0 out.length) + 1) = timeOf (doK out p0 out.length) + 1 := wrap64 (by omega) (by omega)
      simp -dsimp [e]
      repeat (first | refine ⟨by omega, ?_⟩ | refine ⟨by simp [capMax]; omega, ?_⟩ | refine ⟨⟨by omega, by omega⟩, ?_⟩)
      refine ACallK_of (f254_ok p0 out (sok_Ok k0) ko (by omega)) ?_
      simp -dsimp [e]
      repeat (first | refine ⟨by omega, ?_⟩ | refine ⟨by simp [capMax]; omega, ?_⟩ | refine ⟨⟨by omega, by omega⟩, ?_⟩)
      refine ACallK_of (f135_ok (doK out p0 out.length) (by omega)) ?_
      simp -dsimp [wt, e]
      repeat (first | refine ⟨by omega, ?_⟩ | refine ⟨by simp [capMax]; omega, ?_⟩ | refine ⟨⟨by omega, by omega⟩, ?_⟩)
      refine ACallW_args (by intro us; simp -dsimp; exact ⟨rfl, rfl, rfl⟩) ?_
      refine ACallC_of (fun us => f155_ok (curN (curN c1 3).2 3).2 c3) (by intro us; simp -dsimp; exact ⟨rfl, rfl⟩) ?_
      simp -dsimp [e]
      repeat (first | refine ⟨by omega, ?_⟩ | refine ⟨by simp [capMax]; omega, ?_⟩ | refine ⟨⟨by omega, by omega⟩, ?_⟩)
      refine ACallK_of (f32_ok (doK out p0 out.length) 0 (timeOf (doK out p0 out.length) + 1) (editD (curN (curN c1 3).2 3).2).1 hXO (by omega) (by omega) (by omega)) ?_
      have hAo : (actOf (doK out p0 out.length) 0 (timeOf (doK out p0 out.length) + 1) (editD (curN (curN c1 3).2 3).2).1).1.Ok := actOf_ok hXO (by omega) (by omega)
      by_cases qa : (actOf (doK out p0 out.length) 0 (timeOf (doK out p0 out.length) + 1) (editD (curN (curN c1 3).2 3).2).1).2 = 0
      · have eM : asN ⟨(p0, p1, p2), out, c1⟩ = ⟨((doAct (doK out p0 out.length) (actOf (doK out p0 out.length) 0 (timeOf (doK out p0 out.length) + 1) (editD (curN (curN c1 3).2 3).2).1).1).1, p1, p2), out ++ [(actOf (doK out p0 out.length) 0 (timeOf (doK out p0 out.length) + 1) (editD (curN (curN c1 3).2 3).2).1).1], (editD (curN (curN c1 3).2 3).2).2⟩ := by
          simp [asN, asA, asSt, asO, asR, asE, get3, put3, e, q, qa]
        generalize actOf (doK out p0 out.length) 0 (timeOf (doK out p0 out.length) + 1) (editD (curN (curN c1 3).2 3).2).1 = A at *
        simp -dsimp [qa, e]
        repeat (first | refine ⟨by omega, ?_⟩ | refine ⟨by simp [capMax]; omega, ?_⟩ | refine ⟨⟨by omega, by omega⟩, ?_⟩)
        refine ACallK_of (f37_ok (doK out p0 out.length) A.1 hXO hAo) ?_
        simp -dsimp [e, wi]
        repeat (first | refine ⟨by omega, ?_⟩ | refine ⟨by simp [capMax]; omega, ?_⟩ | refine ⟨⟨by omega, by omega⟩, ?_⟩)
        exact Back_of (i + 1) [0, 1, 5, 7, 8] [(640000, 640000), (320, 320), (448, 5312)] rfl rfl (by simp [eN, eM]) (by omega) (by omega)
      · have eM : asN ⟨(p0, p1, p2), out, c1⟩ = ⟨((doK out p0 out.length), p1, p2), out, (editD (curN (curN c1 3).2 3).2).2⟩ := by
          simp [asN, asA, asSt, asO, asR, asE, get3, put3, e, q, qa]
        generalize actOf (doK out p0 out.length) 0 (timeOf (doK out p0 out.length) + 1) (editD (curN (curN c1 3).2 3).2).1 = A at *
        simp -dsimp [qa, e, wi]
        repeat (first | refine ⟨by omega, ?_⟩ | refine ⟨by simp [capMax]; omega, ?_⟩ | refine ⟨⟨by omega, by omega⟩, ?_⟩)
        exact Back_of (i + 1) [0, 1, 5, 7, 8] [(640000, 640000), (320, 320), (448, 448)] rfl rfl (by simp [eN, eM]) (by omega) (by omega)
  · cases q : ((curN (curN c1 3).2 3).1 == 0)
    · have hX : SOK p1 := k1
      have hXO := sok_Ok hX
      have hXO2 := hXO
      simp only [GState.Ok] at hXO2
      have ht := timeOf_bd hX
      have wt : IntKind.i64.wrap (timeOf p1 + 1) = timeOf p1 + 1 := wrap64 (by omega) (by omega)
      simp -dsimp [e]
      repeat (first | refine ⟨by omega, ?_⟩ | refine ⟨by simp [capMax]; omega, ?_⟩ | refine ⟨⟨by omega, by omega⟩, ?_⟩)
      refine ACallK_of (f135_ok p1 (by omega)) ?_
      simp -dsimp [wt, e]
      repeat (first | refine ⟨by omega, ?_⟩ | refine ⟨by simp [capMax]; omega, ?_⟩ | refine ⟨⟨by omega, by omega⟩, ?_⟩)
      refine ACallW_args (by intro us; simp -dsimp; exact ⟨rfl, rfl, rfl⟩) ?_
      refine ACallC_of (fun us => f155_ok (curN (curN c1 3).2 3).2 c3) (by intro us; simp -dsimp; exact ⟨rfl, rfl⟩) ?_
      simp -dsimp [e]
      repeat (first | refine ⟨by omega, ?_⟩ | refine ⟨by simp [capMax]; omega, ?_⟩ | refine ⟨⟨by omega, by omega⟩, ?_⟩)
      refine ACallK_of (f32_ok p1 1 (timeOf p1 + 1) (editD (curN (curN c1 3).2 3).2).1 hXO (by omega) (by omega) (by omega)) ?_
      have hAo : (actOf p1 1 (timeOf p1 + 1) (editD (curN (curN c1 3).2 3).2).1).1.Ok := actOf_ok hXO (by omega) (by omega)
      by_cases qa : (actOf p1 1 (timeOf p1 + 1) (editD (curN (curN c1 3).2 3).2).1).2 = 0
      · have eM : asN ⟨(p0, p1, p2), out, c1⟩ = ⟨(p0, (doAct p1 (actOf p1 1 (timeOf p1 + 1) (editD (curN (curN c1 3).2 3).2).1).1).1, p2), out ++ [(actOf p1 1 (timeOf p1 + 1) (editD (curN (curN c1 3).2 3).2).1).1], (editD (curN (curN c1 3).2 3).2).2⟩ := by
          simp [asN, asA, asSt, asO, asR, asE, get3, put3, e, q, qa]
        generalize actOf p1 1 (timeOf p1 + 1) (editD (curN (curN c1 3).2 3).2).1 = A at *
        simp -dsimp [qa, e]
        repeat (first | refine ⟨by omega, ?_⟩ | refine ⟨by simp [capMax]; omega, ?_⟩ | refine ⟨⟨by omega, by omega⟩, ?_⟩)
        refine ACallK_of (f37_ok p1 A.1 hXO hAo) ?_
        simp -dsimp [e, wi]
        repeat (first | refine ⟨by omega, ?_⟩ | refine ⟨by simp [capMax]; omega, ?_⟩ | refine ⟨⟨by omega, by omega⟩, ?_⟩)
        exact Back_of (i + 1) [0, 1, 5, 7, 8] [(640000, 640000), (320, 320), (448, 5312)] rfl rfl (by simp [eN, eM]) (by omega) (by omega)
      · have eM : asN ⟨(p0, p1, p2), out, c1⟩ = ⟨(p0, p1, p2), out, (editD (curN (curN c1 3).2 3).2).2⟩ := by
          simp [asN, asA, asSt, asO, asR, asE, get3, put3, e, q, qa]
        generalize actOf p1 1 (timeOf p1 + 1) (editD (curN (curN c1 3).2 3).2).1 = A at *
        simp -dsimp [qa, e, wi]
        repeat (first | refine ⟨by omega, ?_⟩ | refine ⟨by simp [capMax]; omega, ?_⟩ | refine ⟨⟨by omega, by omega⟩, ?_⟩)
        exact Back_of (i + 1) [0, 1, 5, 7, 8] [(640000, 640000), (320, 320), (448, 448)] rfl rfl (by simp [eN, eM]) (by omega) (by omega)
    · have hX : SOK (doK out p1 out.length) := (doK_sok k1 out.length)
      have hXO := sok_Ok hX
      have hXO2 := hXO
      simp only [GState.Ok] at hXO2
      have ht := timeOf_bd hX
      have wt : IntKind.i64.wrap (timeOf (doK out p1 out.length) + 1) = timeOf (doK out p1 out.length) + 1 := wrap64 (by omega) (by omega)
      simp -dsimp [e]
      repeat (first | refine ⟨by omega, ?_⟩ | refine ⟨by simp [capMax]; omega, ?_⟩ | refine ⟨⟨by omega, by omega⟩, ?_⟩)
      refine ACallK_of (f254_ok p1 out (sok_Ok k1) ko (by omega)) ?_
      simp -dsimp [e]
      repeat (first | refine ⟨by omega, ?_⟩ | refine ⟨by simp [capMax]; omega, ?_⟩ | refine ⟨⟨by omega, by omega⟩, ?_⟩)
      refine ACallK_of (f135_ok (doK out p1 out.length) (by omega)) ?_
      simp -dsimp [wt, e]
      repeat (first | refine ⟨by omega, ?_⟩ | refine ⟨by simp [capMax]; omega, ?_⟩ | refine ⟨⟨by omega, by omega⟩, ?_⟩)
      refine ACallW_args (by intro us; simp -dsimp; exact ⟨rfl, rfl, rfl⟩) ?_
      refine ACallC_of (fun us => f155_ok (curN (curN c1 3).2 3).2 c3) (by intro us; simp -dsimp; exact ⟨rfl, rfl⟩) ?_
      simp -dsimp [e]
      repeat (first | refine ⟨by omega, ?_⟩ | refine ⟨by simp [capMax]; omega, ?_⟩ | refine ⟨⟨by omega, by omega⟩, ?_⟩)
      refine ACallK_of (f32_ok (doK out p1 out.length) 1 (timeOf (doK out p1 out.length) + 1) (editD (curN (curN c1 3).2 3).2).1 hXO (by omega) (by omega) (by omega)) ?_
      have hAo : (actOf (doK out p1 out.length) 1 (timeOf (doK out p1 out.length) + 1) (editD (curN (curN c1 3).2 3).2).1).1.Ok := actOf_ok hXO (by omega) (by omega)
      by_cases qa : (actOf (doK out p1 out.length) 1 (timeOf (doK out p1 out.length) + 1) (editD (curN (curN c1 3).2 3).2).1).2 = 0
      · have eM : asN ⟨(p0, p1, p2), out, c1⟩ = ⟨(p0, (doAct (doK out p1 out.length) (actOf (doK out p1 out.length) 1 (timeOf (doK out p1 out.length) + 1) (editD (curN (curN c1 3).2 3).2).1).1).1, p2), out ++ [(actOf (doK out p1 out.length) 1 (timeOf (doK out p1 out.length) + 1) (editD (curN (curN c1 3).2 3).2).1).1], (editD (curN (curN c1 3).2 3).2).2⟩ := by
          simp [asN, asA, asSt, asO, asR, asE, get3, put3, e, q, qa]
        generalize actOf (doK out p1 out.length) 1 (timeOf (doK out p1 out.length) + 1) (editD (curN (curN c1 3).2 3).2).1 = A at *
        simp -dsimp [qa, e]
        repeat (first | refine ⟨by omega, ?_⟩ | refine ⟨by simp [capMax]; omega, ?_⟩ | refine ⟨⟨by omega, by omega⟩, ?_⟩)
        refine ACallK_of (f37_ok (doK out p1 out.length) A.1 hXO hAo) ?_
        simp -dsimp [e, wi]
        repeat (first | refine ⟨by omega, ?_⟩ | refine ⟨by simp [capMax]; omega, ?_⟩ | refine ⟨⟨by omega, by omega⟩, ?_⟩)
        exact Back_of (i + 1) [0, 1, 5, 7, 8] [(640000, 640000), (320, 320), (448, 5312)] rfl rfl (by simp [eN, eM]) (by omega) (by omega)
      · have eM : asN ⟨(p0, p1, p2), out, c1⟩ = ⟨(p0, (doK out p1 out.length), p2), out, (editD (curN (curN c1 3).2 3).2).2⟩ := by
          simp [asN, asA, asSt, asO, asR, asE, get3, put3, e, q, qa]
        generalize actOf (doK out p1 out.length) 1 (timeOf (doK out p1 out.length) + 1) (editD (curN (curN c1 3).2 3).2).1 = A at *
        simp -dsimp [qa, e, wi]
        repeat (first | refine ⟨by omega, ?_⟩ | refine ⟨by simp [capMax]; omega, ?_⟩ | refine ⟨⟨by omega, by omega⟩, ?_⟩)
        exact Back_of (i + 1) [0, 1, 5, 7, 8] [(640000, 640000), (320, 320), (448, 448)] rfl rfl (by simp [eN, eM]) (by omega) (by omega)
  · cases q : ((curN (curN c1 3).2 3).1 == 0)
    · have hX : SOK p2 := k2
      have hXO := sok_Ok hX
      have hXO2 := hXO
      simp only [GState.Ok] at hXO2
      have ht := timeOf_bd hX
      have wt : IntKind.i64.wrap (timeOf p2 + 1) = timeOf p2 + 1 := wrap64 (by omega) (by omega)
      simp -dsimp [e]
      repeat (first | refine ⟨by omega, ?_⟩ | refine ⟨by simp [capMax]; omega, ?_⟩ | refine ⟨⟨by omega, by omega⟩, ?_⟩)
      refine ACallK_of (f135_ok p2 (by omega)) ?_
      simp -dsimp [wt, e]
      repeat (first | refine ⟨by omega, ?_⟩ | refine ⟨by simp [capMax]; omega, ?_⟩ | refine ⟨⟨by omega, by omega⟩, ?_⟩)
      refine ACallW_args (by intro us; simp -dsimp; exact ⟨rfl, rfl, rfl⟩) ?_
      refine ACallC_of (fun us => f155_ok (curN (curN c1 3).2 3).2 c3) (by intro us; simp -dsimp; exact ⟨rfl, rfl⟩) ?_
      simp -dsimp [e]
      repeat (first | refine ⟨by omega, ?_⟩ | refine ⟨by simp [capMax]; omega, ?_⟩ | refine ⟨⟨by omega, by omega⟩, ?_⟩)
      refine ACallK_of (f32_ok p2 2 (timeOf p2 + 1) (editD (curN (curN c1 3).2 3).2).1 hXO (by omega) (by omega) (by omega)) ?_
      have hAo : (actOf p2 2 (timeOf p2 + 1) (editD (curN (curN c1 3).2 3).2).1).1.Ok := actOf_ok hXO (by omega) (by omega)
      by_cases qa : (actOf p2 2 (timeOf p2 + 1) (editD (curN (curN c1 3).2 3).2).1).2 = 0
      · have eM : asN ⟨(p0, p1, p2), out, c1⟩ = ⟨(p0, p1, (doAct p2 (actOf p2 2 (timeOf p2 + 1) (editD (curN (curN c1 3).2 3).2).1).1).1), out ++ [(actOf p2 2 (timeOf p2 + 1) (editD (curN (curN c1 3).2 3).2).1).1], (editD (curN (curN c1 3).2 3).2).2⟩ := by
          simp [asN, asA, asSt, asO, asR, asE, get3, put3, e, q, qa]
        generalize actOf p2 2 (timeOf p2 + 1) (editD (curN (curN c1 3).2 3).2).1 = A at *
        simp -dsimp [qa, e]
        repeat (first | refine ⟨by omega, ?_⟩ | refine ⟨by simp [capMax]; omega, ?_⟩ | refine ⟨⟨by omega, by omega⟩, ?_⟩)
        refine ACallK_of (f37_ok p2 A.1 hXO hAo) ?_
        simp -dsimp [e, wi]
        repeat (first | refine ⟨by omega, ?_⟩ | refine ⟨by simp [capMax]; omega, ?_⟩ | refine ⟨⟨by omega, by omega⟩, ?_⟩)
        exact Back_of (i + 1) [0, 1, 5, 7, 8] [(640000, 640000), (320, 320), (448, 5312)] rfl rfl (by simp [eN, eM]) (by omega) (by omega)
      · have eM : asN ⟨(p0, p1, p2), out, c1⟩ = ⟨(p0, p1, p2), out, (editD (curN (curN c1 3).2 3).2).2⟩ := by
          simp [asN, asA, asSt, asO, asR, asE, get3, put3, e, q, qa]
        generalize actOf p2 2 (timeOf p2 + 1) (editD (curN (curN c1 3).2 3).2).1 = A at *
        simp -dsimp [qa, e, wi]
        repeat (first | refine ⟨by omega, ?_⟩ | refine ⟨by simp [capMax]; omega, ?_⟩ | refine ⟨⟨by omega, by omega⟩, ?_⟩)
        exact Back_of (i + 1) [0, 1, 5, 7, 8] [(640000, 640000), (320, 320), (448, 448)] rfl rfl (by simp [eN, eM]) (by omega) (by omega)
    · have hX : SOK (doK out p2 out.length) := (doK_sok k2 out.length)
      have hXO := sok_Ok hX
      have hXO2 := hXO
      simp only [GState.Ok] at hXO2
      have ht := timeOf_bd hX
      have wt : IntKind.i64.wrap (timeOf (doK out p2 out.length) + 1) = timeOf (doK out p2 out.length) + 1 := wrap64 (by omega) (by omega)
      simp -dsimp [e]
      repeat (first | refine ⟨by omega, ?_⟩ | refine ⟨by simp [capMax]; omega, ?_⟩ | refine ⟨⟨by omega, by omega⟩, ?_⟩)
      refine ACallK_of (f254_ok p2 out (sok_Ok k2) ko (by omega)) ?_
      simp -dsimp [e]
      repeat (first | refine ⟨by omega, ?_⟩ | refine ⟨by simp [capMax]; omega, ?_⟩ | refine ⟨⟨by omega, by omega⟩, ?_⟩)
      refine ACallK_of (f135_ok (doK out p2 out.length) (by omega)) ?_
      simp -dsimp [wt, e]
      repeat (first | refine ⟨by omega, ?_⟩ | refine ⟨by simp [capMax]; omega, ?_⟩ | refine ⟨⟨by omega, by omega⟩, ?_⟩)
      refine ACallW_args (by intro us; simp -dsimp; exact ⟨rfl, rfl, rfl⟩) ?_
      refine ACallC_of (fun us => f155_ok (curN (curN c1 3).2 3).2 c3) (by intro us; simp -dsimp; exact ⟨rfl, rfl⟩) ?_
      simp -dsimp [e]
      repeat (first | refine ⟨by omega, ?_⟩ | refine ⟨by simp [capMax]; omega, ?_⟩ | refine ⟨⟨by omega, by omega⟩, ?_⟩)
      refine ACallK_of (f32_ok (doK out p2 out.length) 2 (timeOf (doK out p2 out.length) + 1) (editD (curN (curN c1 3).2 3).2).1 hXO (by omega) (by omega) (by omega)) ?_
      have hAo : (actOf (doK out p2 out.length) 2 (timeOf (doK out p2 out.length) + 1) (editD (curN (curN c1 3).2 3).2).1).1.Ok := actOf_ok hXO (by omega) (by omega)
      by_cases qa : (actOf (doK out p2 out.length) 2 (timeOf (doK out p2 out.length) + 1) (editD (curN (curN c1 3).2 3).2).1).2 = 0
      · have eM : asN ⟨(p0, p1, p2), out, c1⟩ = ⟨(p0, p1, (doAct (doK out p2 out.length) (actOf (doK out p2 out.length) 2 (timeOf (doK out p2 out.length) + 1) (editD (curN (curN c1 3).2 3).2).1).1).1), out ++ [(actOf (doK out p2 out.length) 2 (timeOf (doK out p2 out.length) + 1) (editD (curN (curN c1 3).2 3).2).1).1], (editD (curN (curN c1 3).2 3).2).2⟩ := by
          simp [asN, asA, asSt, asO, asR, asE, get3, put3, e, q, qa]
        generalize actOf (doK out p2 out.length) 2 (timeOf (doK out p2 out.length) + 1) (editD (curN (curN c1 3).2 3).2).1 = A at *
        simp -dsimp [qa, e]
        repeat (first | refine ⟨by omega, ?_⟩ | refine ⟨by simp [capMax]; omega, ?_⟩ | refine ⟨⟨by omega, by omega⟩, ?_⟩)
        refine ACallK_of (f37_ok (doK out p2 out.length) A.1 hXO hAo) ?_
        simp -dsimp [e, wi]
        repeat (first | refine ⟨by omega, ?_⟩ | refine ⟨by simp [capMax]; omega, ?_⟩ | refine ⟨⟨by omega, by omega⟩, ?_⟩)
        exact Back_of (i + 1) [0, 1, 5, 7, 8] [(640000, 640000), (320, 320), (448, 5312)] rfl rfl (by simp [eN, eM]) (by omega) (by omega)
      · have eM : asN ⟨(p0, p1, p2), out, c1⟩ = ⟨(p0, p1, (doK out p2 out.length)), out, (editD (curN (curN c1 3).2 3).2).2⟩ := by
          simp [asN, asA, asSt, asO, asR, asE, get3, put3, e, q, qa]
        generalize actOf (doK out p2 out.length) 2 (timeOf (doK out p2 out.length) + 1) (editD (curN (curN c1 3).2 3).2).1 = A at *
        simp -dsimp [qa, e, wi]
        repeat (first | refine ⟨by omega, ?_⟩ | refine ⟨by simp [capMax]; omega, ?_⟩ | refine ⟨⟨by omega, by omega⟩, ?_⟩)
        exact Back_of (i + 1) [0, 1, 5, 7, 8] [(640000, 640000), (320, 320), (448, 448)] rfl rfl (by simp [eN, eM]) (by omega) (by omega)
end Am
namespace Am
open Go Go.Proofs
open Cel (cells)
set_option maxRecDepth 100000
set_option linter.unusedSimpArgs false
set_option linter.unusedVariables false

@[simp] def h13 : Hts := { merge := fun _ => false, mergeF := fun _ => false, lend := fun f => if f = 114 then [.box []] else [] }
theorem f13_ok (b : List UInt8) (hb : b.length ≤ 1048576) : FnR Tryz.prog 13 [.v (.im b.length (flat b))] (.v (.ow 31 10 ((actsK (curNew b) 9).out).length (flatO ((actsK (curNew b) 9).out)))) := by
  refine FnW.of_AW TryzT_ok 0 (fn := Tryz.f13) (by kernel_rfl) rfl (by kernel_rfl) rfl rfl rfl ?_; refine AW_of h13 TryzT_ok (by kernel_rfl) ?_
  simp -dsimp
  refine ACallK_of (f115_ok b hb) ?_
  simp -dsimp
  refine ACallW_args (by intro us; simp -dsimp; exact ⟨rfl, rfl, rfl⟩) ?_
  refine ACallC_of (fun us => f114_ok (curNew b) (curNew_ok hb) 9 (by omega)) (by intro us; simp -dsimp; exact ⟨rfl, rfl⟩) ?_
  simp -dsimp

@[simp] def h14 : Hts := { merge := fun _ => false, mergeF := fun _ => false, lend := fun f => if f = 117 || f = 116 then [.box []] else [] }
set_option maxHeartbeats 1000000 in
theorem f14_ok (b : List UInt8) (hb : b.length ≤ 1048576) : FnR Tryz.prog 14 [.v (.im b.length (flat b))] (.v (.ow 3 1 ((drawsK (curB (curNew b)).2 10000 12).1).length (flat ((drawsK (curB (curNew b)).2 10000 12).1)))) := by
  refine FnW.of_AW TryzT_ok 0 (fn := Tryz.f14) (by kernel_rfl) rfl (by kernel_rfl) rfl rfl rfl ?_; refine AW_of h14 TryzT_ok (by kernel_rfl) ?_
  simp -dsimp
  refine ACallK_of (f115_ok b hb) ?_
  simp -dsimp
  refine ACallW_args (by intro us; simp -dsimp; exact ⟨rfl, rfl, rfl⟩) ?_
  refine ACallC_of (fun us => f116_ok (curNew b) (curNew_ok hb)) (by intro us; simp -dsimp; exact ⟨rfl, rfl⟩) ?_
  have hc : (curB (curNew b)).2.Ok := curB_ok (curNew_ok hb)
  generalize (curB (curNew b)).2 = c at *
  simp -dsimp
  refine AWh_loop (fun i : Nat => i ≤ 12) (fun i => mkE [(3, .box 448 0), (4, .arr 256), (5, .c (.int .i64 i))] [(448, .box [.c (.im ((drawsK c 10000 i).2).b.length (flat ((drawsK c 10000 i).2).b)), .c (.int .i64 ((drawsK c 10000 i).2).i), .c (.int .i64 ((drawsK c 10000 i).2).h)]), (256, .arr 0 3 1 (drawsK c 10000 i).1.length (flat (drawsK c 10000 i).1))]) (fun i => 12 - i) 0 (Wk_to [3, 4, 5] [(448, 448), (256, 640)] rfl rfl (by simp [drawsK])) (by simp) ?_
  rintro i hi
  refine AW_of h14 TryzT_ok (by kernel_rfl) ?_
  have wi : IntKind.i64.wrap ((i : Int) + 1) = i + 1 := wrap64 (by omega) (by omega)
  have hl := drawsK_len c 10000 i
  rcases Nat.lt_or_ge i 12 with q1 | q1
  · have q1' : (i : Int) < 12 := by omega
    simp -dsimp [q1']
    refine ACallW_args (by intro us; simp -dsimp; exact ⟨rfl, rfl, rfl⟩) ?_
    refine ACallC_of (fun us => f117_ok (drawsK c 10000 i).2 (drawsK_ok hc 10000 i) 10000) (by intro us; simp -dsimp; exact ⟨rfl, rfl⟩) ?_
    simp -dsimp [wi]
    repeat (first | refine ⟨by omega, ?_⟩ | refine ⟨by simp [capMax]; omega, ?_⟩ | refine ⟨⟨by omega, by omega⟩, ?_⟩)
    exact Back_of (i + 1) [3, 4, 5] [(448, 448), (256, 1216)] rfl rfl (by simp [drawsK]) (by omega) (by omega)
  · obtain rfl : i = 12 := by omega
    simp -dsimp

end Am
namespace Am
open Go
set_option linter.unusedSimpArgs false
set_option linter.unusedVariables false

/-- A state that knows all that its own did, and nothing that is not there. -/
def Own (r : Int) (out : List GAct) (s : GState) : Prop := ∃ D, Canon D s ∧ (∀ b, b ∈ D → b ∈ out) ∧ ∀ b, b ∈ out → b.dot.rep = r → b ∈ D
def Own3 (out : List GAct) (p : GState × GState × GState) : Prop := Own 0 out p.1 ∧ Own 1 out p.2.1 ∧ Own 2 out p.2.2
theorem own_more {r : Int} {out : List GAct} {s : GState} {a : GAct} (h : Own r out s) (hr : a.dot.rep ≠ r) : Own r (out ++ [a]) s := by
  obtain ⟨D, h1, h2, h3⟩ := h
  refine ⟨D, h1, fun b hb => List.mem_append_left _ (h2 b hb), fun b hb he => ?_⟩
  rcases List.mem_append.1 hb with hb | hb
  · exact h3 b hb he
  · rw [List.mem_singleton.1 hb] at he; exact absurd he hr
theorem own_all {r : Int} {out : List GAct} {s : GState} (h : Own r out s) : Own r out (doK out s out.length) := by
  obtain ⟨D, h1, h2, h3⟩ := h
  obtain ⟨D', c1, c2, c3⟩ := canon_all (l := out) h1 out.length (Nat.le_refl _)
  refine ⟨D', c1, fun b hb => ?_, fun b hb he => c2 b (h3 b hb he)⟩
  rcases c3 b hb with hb | hb
  · exact h2 b hb
  · exact hb
theorem own_len {r : Int} {out : List GAct} {s : GState} {D : List GAct} (h1 : Canon D s) (h2 : ∀ b, b ∈ D → b ∈ out) : D.length ≤ out.length := by
  have := nodup_len (m := out.map (·.dot)) h1.nod (fun d hd => by
    obtain ⟨x, hx, rfl⟩ := List.mem_map.1 hd
    exact List.mem_map.2 ⟨x, h2 x hx, rfl⟩)
  simpa using this
/-- An act made of a wish, where all that one did is known. -/
theorem own_act {r : Int} {out : List GAct} {s : GState} {e : GEdit} (h : Own r out s) (hl : out.length ≤ 119) (hw : whole out) (hc : (actOf s r (timeOf s + 1) e).2 = 0) :
    whole (out ++ [(actOf s r (timeOf s + 1) e).1]) ∧ Own r (out ++ [(actOf s r (timeOf s + 1) e).1]) (doAct s (actOf s r (timeOf s + 1) e).1).1 := by
  obtain ⟨D, h1, h2, h3⟩ := h
  have hD := own_len (r := r) h1 h2
  have t1 := canon_tallies h1
  have t2 := canon_lives h1
  have t3 := canon_cells h1
  have hd := actOf_done h1.sok hc (by omega) (by omega) (by omega) (by omega)
  have hr := actOf_rep hc
  generalize (actOf s r (timeOf s + 1) e).1 = a at *
  obtain ⟨d1, d2⟩ := done_of hd
  refine ⟨whole_snoc hw h1 d1 h2 (fun b hb e => ?_) hl, ?_⟩
  · have hbD := h3 b hb (by rw [e]; exact hr)
    have hk := (h1.know a.dot).2 ⟨b, hbD, e⟩
    rw [d1.n] at hk
    cases hk
  · obtain ⟨D', c1, c2⟩ := canon_do a h1
    rcases c2 with ⟨rfl, _⟩ | ⟨_, c2⟩
    · refine ⟨_, c1, fun b hb => ?_, fun b hb he => ?_⟩
      · rcases List.mem_cons.1 hb with rfl | hb
        · exact List.mem_append_right _ (by simp)
        · exact List.mem_append_left _ (h2 b hb)
      · rcases List.mem_append.1 hb with hb | hb
        · exact List.mem_cons_of_mem _ (h3 b hb he)
        · rw [List.mem_singleton.1 hb]; simp
    · exact absurd hd c2
theorem own3_get {out : List GAct} {p : GState × GState × GState} (h : Own3 out p) {r : Int} (hr : r = 0 ∨ r = 1 ∨ r = 2) : Own r out (get3 r p) := by
  obtain ⟨h0, h1, h2⟩ := h
  rcases hr with rfl | rfl | rfl <;> simpa [get3]
theorem own3_put {out : List GAct} {p : GState × GState × GState} (h : Own3 out p) {r : Int} (hr : r = 0 ∨ r = 1 ∨ r = 2) {x : GState} (hx : Own r out x) : Own3 out (put3 r p x) := by
  obtain ⟨h0, h1, h2⟩ := h
  rcases hr with rfl | rfl | rfl <;> simp [put3, Own3, *]
theorem own3_snoc {out : List GAct} {p : GState × GState × GState} (h : Own3 out p) {r : Int} (hr : r = 0 ∨ r = 1 ∨ r = 2) {a : GAct} (ha : a.dot.rep = r) {x : GState} (hx : Own r (out ++ [a]) x) : Own3 (out ++ [a]) (put3 r p x) := by
  obtain ⟨h0, h1, h2⟩ := h
  rcases hr with rfl | rfl | rfl
  · have q1 := own_more h1 (by omega : a.dot.rep ≠ 1)
    have q2 := own_more h2 (by omega : a.dot.rep ≠ 2)
    simp [put3, Own3, *]
  · have q1 := own_more h0 (by omega : a.dot.rep ≠ 0)
    have q2 := own_more h2 (by omega : a.dot.rep ≠ 2)
    simp [put3, Own3, *]
  · have q1 := own_more h0 (by omega : a.dot.rep ≠ 0)
    have q2 := own_more h1 (by omega : a.dot.rep ≠ 1)
    simp [put3, Own3, *]
theorem own_new (r : Int) : Own r [] stateNew := ⟨[], canon_new, by simp, by simp⟩
theorem asN_whole {a : AS} (hw : whole a.out) (h : Own3 a.out a.st) (hl : a.out.length ≤ 119) : whole (asN a).out ∧ Own3 (asN a).out (asN a).st := by
  have hr : (asR a).1 = 0 ∨ (asR a).1 = 1 ∨ (asR a).1 = 2 := by
    have := curN_bd a.c (n := 3) (by decide)
    have e : (asR a).1 = (curN a.c 3).1 := rfl
    omega
  have hS : Own3 a.out (asSt a) := by
    unfold asSt
    split
    · exact own3_put h hr (own_all (own3_get h hr))
    · exact h
  unfold asN
  split
  · rename_i hc
    obtain ⟨w1, w2⟩ := own_act (own3_get hS hr) hl hw hc
    exact ⟨w1, own3_snoc hS hr (actOf_rep hc) w2⟩
  · exact ⟨hw, hS⟩
theorem asN_len (a : AS) : (asN a).out.length ≤ a.out.length + 1 := by
  unfold asN
  split
  · simp
  · simp
theorem actsK_len (c : GCur) : ∀ i, (actsK c i).out.length ≤ i
  | 0 => by simp [actsK]
  | i + 1 => by
    have h1 := actsK_len c i
    have h2 := asN_len (actsK c i)
    rw [actsK]; omega
theorem actsK_whole (c : GCur) : ∀ i : Nat, i ≤ 119 → whole (actsK c i).out ∧ Own3 (actsK c i).out (actsK c i).st
  | 0, _ => ⟨fun i hi => by simp [actsK] at hi, own_new 0, own_new 1, own_new 2⟩
  | i + 1, hi => by
    obtain ⟨h1, h2⟩ := actsK_whole c i (by omega)
    have hl := actsK_len c i
    exact asN_whole h1 h2 (by omega)

/-- Whole acts settle to what they come to in their order. -/
theorem settled_is {acts l : List GAct} (hw : whole acts) (hn : acts.length ≤ 119) (hm : ∀ a, a ∈ l ↔ a ∈ acts) : settled l = (doK acts stateNew acts.length, (acts.length : Int)) := by
  obtain ⟨n1, n2, n3⟩ := endK_is l
  have h0 : endK l ≠ 0 := fun e => by rw [e] at n2; cases n2
  obtain ⟨k, hk⟩ : ∃ k, endK l = k + 1 := ⟨endK l - 1, by omega⟩
  unfold settled
  rw [hk] at n2 ⊢
  obtain ⟨e1, e2⟩ := settled_whole hw hn hm n2
  rw [e1, e2]; rfl
end Am
