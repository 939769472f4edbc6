/- What one wants is done, and read then: the law. No condition. -/
import Derived.Test.YteidfkbfocdnmaaGreatT
import Derived.Test.YteidfkbfocdnmaaGreatD
import Derived.Test.YteidfkbfocdnmaaGreatU24
import Derived.Test.YteidfkbfocdnmaaGreatV7
import Derived.Test.YteidfkbfocdnmaaGreatE56
import Derived.Test.YteidfkbfocdnmaaGreatE70
import Derived.Test.YteidfkbfocdnmaaGreatE75
import Derived.Test.YteidfkbfocdnmaaGreatE93a
import Derived.Test.YteidfkbfocdnmaaGreatE107
namespace Am
open Go Go.Proofs
open Cel (cells)
set_option maxRecDepth 100000
set_option linter.unusedSimpArgs false
set_option linter.unusedVariables false

theorem mapOf_one {s : GState} {o k : ByteArray} {x : GLive} (h : livesOf s true o k = [x]) : mapOf s o k = [x.val] := by
  unfold mapOf
  rw [h]
  have e : vlK [x] [x].length = [x.val] := rfl
  rw [e]; simp [sortI]
theorem mapOf_nil {s : GState} {o k : ByteArray} (h : livesOf s true o k = []) : mapOf s o k = [] := by
  unfold mapOf
  rw [h]
  have e : vlK [] ([] : List GLive).length = [] := rfl
  rw [e]; simp [sortI]
theorem drawState_is (b : List UInt8) : drawState b = (stateD (curNew b)).1 := rfl
theorem rowLive_bd {s : GState} (h : SOK s) (o : ByteArray) : (rowOf s o).length ≤ 120 := by
  unfold rowOf
  rw [List.length_map]
  exact rowLive_len s o

@[simp] def h4 : Hts := { merge := fun _ => false, mergeF := fun _ => false, dr := fun id => if id = 6 then [{ mb := [35, 6] }, { mb := [35, 6] }, { mb := [6] }, { cr := true, mb := [6] }, { mb := [6] }, { mb := [35, 6] }, { cr := true, mb := [6] }, { mb := [6] }, { mb := [6] }, { mn := [384], mb := [6] }, { cr := true, mb := [35, 38] }, { wr := [384] }, {}] else if id = 11 then [{}, {}, {}, {}, {}, {}, { cr := true }, {}, {}, {}, {}, { cr := true }, { mb := [77] }, { cr := true }, {}, {}, {}, {}, { cr := true }, {}, {}] else if id = 20 then [{}, {}, {}, { cr := true }, { mb := [111] }, { mb := [111] }, { mb := [111] }, { cr := true }, { mb := [111, 115] }, { mb := [111, 115] }, {}, {}, {}, {}] else if id = 22 then [{}, {}, {}, {}, {}, { cr := true }, { mb := [135] }, { mb := [128] }, { mb := [128] }, { mb := [128] }, { mb := [128] }, { mb := [128] }, { cr := true }, {}, {}, {}, {}] else if id = 26 then [{ mb := [159] }, { mb := [159] }, { mb := [159] }, { mb := [159] }, { mb := [159] }, { cr := true, mb := [159] }, { mb := [156] }, { mb := [156] }, { cr := true, mb := [156] }, { cr := true }, {}] else if id = 31 then [{ mb := [182] }, { mb := [182] }, {}, {}, {}, { cr := true }, {}, {}, {}, {}, {}, {}, {}, {}, {}, {}, {}, {}, {}, {}] else if id = 32 then [{}, {}, {}, { cr := true }, { mb := [204] }, { mb := [199] }, { mb := [199] }, { mb := [199] }, { cr := true }, {}, {}, {}, {}] else [] }
set_option maxHeartbeats 16000000 in
theorem f4_ok (b : List UInt8) (hb0 : b.length ≤ 9223372036854775807) : FnR Tryz.prog 4 [.v (.im b.length (flat b))] (.v (.bool true)) := by
  refine FnW.of_AW TryzT_ok 0 (fn := Tryz.f4) (by kernel_rfl) rfl (by kernel_rfl) rfl rfl rfl ?_; refine AW_of h4 TryzT_ok (by kernel_rfl) ?_
  simp -dsimp
  refine ACallK_of (f12_ok b) ?_
  by_cases hb : 1048576 < b.length
  · simp -dsimp [hb]
  have hb : b.length ≤ 1048576 := by omega
  have hb' : ¬ 1048576 < b.length := by omega
  simp -dsimp [hb']
  refine ACallK_of (f27_ok b hb) ?_
  simp -dsimp
  refine ACallK_of (f28_ok b hb) ?_
  simp -dsimp
  refine ACallK_of (f14_ok b hb) ?_
  have hp := drawsK_len (curB (curNew b)).2 10000 12
  have hpb := drawsK_bd (curB (curNew b)).2 (n := 10000) (by decide) 12
  generalize (drawsK (curB (curNew b)).2 10000 12).1 = p at *
  have p0 : 0 < p.length := by omega
  have pn : ¬ p = [] := fun e => by rw [e] at hp; simp at hp
  have b0 := hpb _ (nth_mem p0)
  have hr := tmod_bd b0.1 (n := 3) (by decide)
  have hW := drawn_wish (curNew b) (curNew b) (rep := (nth p 0).tmod 3) (by omega)
  have hS : SOK (drawState b) := stateD_sok _
  rw [← drawState_is] at hW
  obtain ⟨g1, g2, g3, g4, g5⟩ := editD_good (curNew b)
  have hkk := kinds_ok (curNew b)
  have hkk2 : 1 ≤ (editD (curNew b)).1.kind ∧ (editD (curNew b)).1.kind ≤ 7 := hkk
  generalize drawState b = s at *
  generalize (editD (curNew b)).1 = e at *
  generalize hrr : (nth p 0).tmod 3 = r at *
  have hO := sok_Ok hS
  have hO2 := hO
  simp only [GState.Ok] at hO2
  have ht := timeOf_bd hS
  have wt : IntKind.i64.wrap (timeOf s + 1) = timeOf s + 1 := wrap64 (by omega) (by omega)
  simp -dsimp [p0, ne_of_lt p0, pn, hrr]
  repeat (first | refine ⟨by omega, ?_⟩ | refine ⟨by simp [capMax]; omega, ?_⟩ | refine ⟨⟨by omega, by omega⟩, ?_⟩)
  refine ACallK_of (f30_ok s hS) ?_
  simp -dsimp [wt]
  refine ACallK_of (f29_ok s r (timeOf s + 1) e hO (by omega) (by omega) (by omega)) ?_
  simp -dsimp
  refine ACallK_of (f31_ok b hb) ?_
  have xO := anyD_Ok (daE b).2
  obtain ⟨z1, z2, z3⟩ := anyE_sz (daT b).2
  have z1' : (daE b).1.obj.size ≤ 8 := z1
  have z2' : (daE b).1.key.size ≤ 8 := z2
  have z3' : (daE b).1.place ≤ 100 := z3
  generalize (anyD (daE b).2).1 = x at *
  generalize (daE b).1 = w at *
  generalize (daR b).1 = xr at *
  generalize (daT b).1 = xt at *
  simp -dsimp
  refine ACallK_of (f29_ok x xr xt w xO (by omega) (by omega) (by omega)) ?_
  simp -dsimp
  refine ACallK_of (f32_ok x xr xt w xO (by omega) (by omega) (by omega)) ?_
  have xA : (actOf x xr xt w).1.Ok := actOf_ok xO (by omega) (by omega)
  generalize actOf x xr xt w = xa at *
  simp -dsimp
  refine ACallK_of (f33_ok b hb) ?_
  obtain ⟨y1, y2, y3⟩ := anyE_sz (curNew b)
  generalize (anyE (curNew b)).1 = ye at *
  simp -dsimp
  refine ACallK_of (f34_ok xa.1 xa.1 xA) ?_
  simp -dsimp
  refine ACallK_of (f35_ok ye (by omega) (by omega)) ?_
  simp -dsimp
  refine ACallK_of (f36_ok ye (by omega) (by omega)) ?_
  simp -dsimp
  refine ACallK_of (f35_ok e (by omega) (by omega)) ?_
  rw [g1]
  rcases hW with ⟨h1, h2, h3⟩ | ⟨h1, h2⟩
  rotate_left
  · simp -dsimp [h1, h2]
  have hA : (actOf s r (timeOf s + 1) e).1.Ok := actOf_ok hO (by omega) (by omega)
  have hT : SOK (doAct s (actOf s r (timeOf s + 1) e).1).1 := sok_of (doAct_sok (of_sok hS))
  have hTO := sok_Ok hT
  have hTO2 := hTO
  simp only [GState.Ok] at hTO2
  have q1 := wish1 h3
  have q2 := wish2 h3
  have q3 := wish3 h3
  have q4 := wish4 h3
  have q5 := wish5 h3
  have q6 := wish6 h3
  have q7 := wish7 h3
  have hv := wish_val h3
  have hc0 : 0 ≤ countOf s e.obj ∧ countOf s e.obj < 1000000 := by rw [countOf_sum hS]; omega
  have r1 := rowLive_bd hS e.obj
  have r2 := rowLive_bd hT e.obj
  have l1 := livesOf_len s false e.obj e.key
  simp -dsimp [h1]
  refine ACallK_of (f37_ok s (actOf s r (timeOf s + 1) e).1 hO hA) ?_
  rw [h2]
  generalize (doAct s (actOf s r (timeOf s + 1) e).1).1 = t at *
  have key : e.kind = 1 ∨ e.kind = 2 ∨ e.kind = 3 ∨ e.kind = 4 ∨ e.kind = 5 ∨ e.kind = 6 ∨ e.kind = 7 := by omega
  rcases key with k | k | k | k | k | k | k
  · have q := q1 k
    have e1 : (countOf s e.obj + e.val).tmod 1000000 = (countOf s e.obj + e.val) % 1000000 := Int.tmod_eq_emod_of_nonneg (by omega)
    have w1 : IntKind.i64.wrap (countOf s e.obj + e.val) = countOf s e.obj + e.val := wrap64 (by omega) (by omega)
    simp -dsimp [k]
    refine ACallK_of (f38_ok t e.obj (by omega)) ?_
    simp -dsimp
    refine ACallK_of (f38_ok s e.obj (by omega)) ?_
    rw [q]
    simp -dsimp [w1, e1]
  · have q := q2 k
    have w1 : IntKind.i64.wrap ((livesOf s false e.obj e.key).length + 1 : Int) = (livesOf s false e.obj e.key).length + 1 := wrap64 (by omega) (by omega)
    simp -dsimp [k]
    refine ACallK_of (f39_ok t false e.obj e.key (by omega)) ?_
    simp -dsimp
    refine ACallK_of (f39_ok s false e.obj e.key (by omega)) ?_
    simp -dsimp [w1, q]
  · have q := q3 k
    simp -dsimp [k]
    refine ACallK_of (f39_ok t false e.obj e.key (by omega)) ?_
    rw [q]
    simp -dsimp
  · have q := mapOf_one (q4 k)
    simp only at q
    simp -dsimp [k]
    refine ACallK_of (f41_ok t e.obj e.key (by omega)) ?_
    rw [q]
    simp -dsimp
    refine ACallK_of (f40_ok [e.val] (by simp)) ?_
    simp -dsimp
  · have q := mapOf_nil (q5 k)
    simp -dsimp [k]
    refine ACallK_of (f41_ok t e.obj e.key (by omega)) ?_
    rw [q]
    simp -dsimp
  · obtain ⟨qa, qb, qc⟩ := q6 k g4
    obtain ⟨m, hm⟩ := Int.eq_ofNat_of_zero_le g4
    rw [hm, Int.toNat_natCast] at qb qc
    have w1 : IntKind.i64.wrap ((rowOf s e.obj).length + 1 : Int) = (rowOf t e.obj).length := by rw [wrap64 (by omega) (by omega)]; omega
    have rn : ¬ rowOf t e.obj = [] := fun h => by rw [h] at qb; simp at qb
    simp -dsimp [k]
    refine ACallK_of (f42_ok t e.obj hTO) ?_
    simp -dsimp
    refine ACallK_of (f42_ok s e.obj hO) ?_
    simp -dsimp [w1, hm, qb, ne_of_lt qb, rn, qc]
  · have q := q7 k
    have w1 : IntKind.i64.wrap ((rowOf s e.obj).length - 1 : Int) = (rowOf t e.obj).length := by rw [wrap64 (by omega) (by omega)]; omega
    simp -dsimp [k]
    refine ACallK_of (f42_ok t e.obj hTO) ?_
    simp -dsimp
    refine ACallK_of (f42_ok s e.obj hO) ?_
    simp -dsimp [w1]
end Am
