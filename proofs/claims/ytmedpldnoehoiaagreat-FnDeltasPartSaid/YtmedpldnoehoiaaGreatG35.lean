/- What changed between acts: the law. No condition. -/
import Derived.Test.YtmedpldnoehoiaaGreatT
import Derived.Test.YtmedpldnoehoiaaGreatD
import Derived.Test.YtmedpldnoehoiaaGreatU21
import Derived.Test.YtmedpldnoehoiaaGreatV7
import Derived.Test.YtmedpldnoehoiaaGreatE56
import Derived.Test.YtmedpldnoehoiaaGreatE9
import Derived.Test.YtmedpldnoehoiaaGreatE63
import Derived.Test.YtmedpldnoehoiaaGreatE93a
namespace Am
open Go Go.Proofs
open Cel (cells)
set_option maxRecDepth 100000
set_option linter.unusedSimpArgs false
set_option linter.unusedVariables false

theorem doAll_take (l : List GAct) (ko : ∀ a, a ∈ l → a.Ok) (hn : l.length ≤ 1000000) (f : Nat) (hf : f ≤ l.length) : FnR Tryz.prog 32 [.agg [.im stateNew.know.length (flat stateNew.know), .im stateNew.tallies.length (flat stateNew.tallies), .im stateNew.lives.length (flat stateNew.lives), .im stateNew.cs.length (flat stateNew.cs)], .v (.im f (List.take (f * 10) (flat l)))] (.tup [.agg [.ow 3 1 (doK (l.take f) stateNew (l.take f).length).know.length (flat (doK (l.take f) stateNew (l.take f).length).know), .ow 117 3 (doK (l.take f) stateNew (l.take f).length).tallies.length (flat (doK (l.take f) stateNew (l.take f).length).tallies), .ow 107 6 (doK (l.take f) stateNew (l.take f).length).lives.length (flat (doK (l.take f) stateNew (l.take f).length).lives), .ow 88 8 (doK (l.take f) stateNew (l.take f).length).cs.length (flat (doK (l.take f) stateNew (l.take f).length).cs)], .v (.ow 3 1 (cdK (l.take f) stateNew (l.take f).length).length (flat (cdK (l.take f) stateNew (l.take f).length)))]) := by
  have e1 : (l.take f).length = f := by rw [List.length_take]; omega
  have e2 : flat (l.take f) = List.take (f * 10) (flat l) := (flat_take l f).symm
  have h := f32_ok stateNew (l.take f) stateNew_ok (fun a ha => ko a (List.mem_of_mem_take ha)) (by omega)
  rw [e2] at h
  rw [e1] at h ⊢
  exact h
@[simp] def h6 : Hts := { merge := fun _ => false, mergeF := fun _ => false, own := fun d => !(d == 35), dr := fun id => if id = 11 then [{ cr := true, mb := [75, 9] }, { mb := [72, 9] }, { mb := [72, 9] }, { cr := true, mb := [72, 9] }, { cr := true, mb := [9] }, { mb := [9] }, { mb := [9] }, { mn := [576], mb := [9] }, { cr := true, mb := [72, 75, 76] }, { wr := [576] }, {}] else if id = 12 then [{ cr := true, mb := [83, 11] }, { mb := [80, 11] }, { mb := [80, 11] }, { cr := true, mb := [80, 11] }, { cr := true, mb := [11] }, { mb := [11] }, { mb := [11] }, { mn := [704], mb := [11] }, { cr := true, mb := [80, 83, 84] }, { wr := [704] }, {}] else if id = 13 then [{ cr := true, mb := [91, 13] }, { mb := [88, 13] }, { mb := [88, 13] }, { cr := true, mb := [88, 13] }, { cr := true, mb := [13] }, { mb := [13] }, { mb := [13] }, { mn := [832], mb := [13] }, { cr := true, mb := [88, 91, 92] }, { wr := [832] }, {}] else if id = 23 then [{}, {}, {}, {}, {}, {}, {}, { cr := true }, {}, {}, {}, {}, {}, {}, {}, {}, {}, {}, {}, {}, {}, {}, {}, {}, {}, {}, {}, { cr := true }, {}, {}, {}, {}, {}, {}, {}, {}, {}, { cr := true }, {}, {}, {}, { cr := true }, { mb := [184] }, { cr := true }, {}, {}, {}] else [] }
set_option maxHeartbeats 16000000 in
theorem f6_ok (b : List UInt8) (hb0 : b.length ≤ 9223372036854775807) : FnR Tryz.prog 6 [.v (.im b.length (flat b))] (.v (.bool true)) := by
  refine FnW.of_AW TryzT_ok 0 (fn := Tryz.f6) (by kernel_rfl) rfl (by kernel_rfl) rfl rfl rfl ?_; refine AW_of h6 TryzT_ok (by kernel_rfl) ?_
  simp -dsimp
  refine ACallK_of (f9_ok b) ?_
  by_cases hb : 1048576 < b.length
  · simp -dsimp [hb]
  have hb : b.length ≤ 1048576 := by omega
  have hb' : ¬ 1048576 < b.length := by omega
  simp -dsimp [hb']
  refine ACallK_of (f17_ok b hb) ?_
  have hA := actsK_ok (curNew_ok hb) 9
  have hw := (actsK_whole (curNew b) 9 (by omega)).1
  obtain ⟨_, _, _, ko, kn, _⟩ := hA
  generalize (actsK (curNew b) 9).out = l at *
  simp -dsimp
  refine ACallK_of (f18_ok b hb) ?_
  have hp := drawsK_len (curB (curNew b)).2 10000 12
  have hpb := drawsK_bd (curB (curNew b)).2 (n := 10000) (by decide) 12
  generalize (drawsK (curB (curNew b)).2 10000 12).1 = p at *
  have p0 : 0 < p.length := by omega
  have p1 : 1 < p.length := by omega
  have p2 : 2 < p.length := by omega
  have pn : ¬ p = [] := fun e => by rw [e] at hp; simp at hp
  by_cases hl : l = []
  · have hdk : deltaOk ⟨[0, 0, 0], [0, 0, 0], [], [], [], []⟩ = true := by decide
    simp -dsimp [hl]
    refine ACallK_of (f31_ok) ?_
    simp -dsimp
    refine ACallK_of (f31_ok) ?_
    simp -dsimp
    refine ACallK_of (f30_ok ⟨[0, 0, 0], [0, 0, 0], [], [], [], []⟩ (by simp [GDelta.Ok])) ?_
    rw [hdk]
    simp -dsimp
  have hn : 0 < l.length := List.length_pos_iff.2 hl
  have b0 := hpb _ (nth_mem p0)
  have b1 := hpb _ (nth_mem p1)
  have b2 := hpb _ (nth_mem p2)
  have t0 := tmod_bd b0.1 (n := l.length) (by omega)
  obtain ⟨f, hf⟩ := Int.eq_ofNat_of_zero_le t0.1
  rw [hf] at t0
  have t1 := tmod_bd b1.1 (n := (l.length : Int) - f) (by omega)
  obtain ⟨g, hg⟩ := Int.eq_ofNat_of_zero_le t1.1
  rw [hg] at t1
  obtain ⟨k, hk⟩ : ∃ k : Nat, k = f + g + 1 := ⟨_, rfl⟩
  have t2 := tmod_bd b2.1 (n := (k : Int) - f + 1) (by omega)
  obtain ⟨r, hr⟩ := Int.eq_ofNat_of_zero_le t2.1
  rw [hr] at t2
  obtain ⟨j, hj⟩ : ∃ j : Nat, j = f + r := ⟨_, rfl⟩
  have w57 : IntKind.i64.wrap ((l.length : Int) - f) = l.length - f := wrap64 (by omega) (by omega)
  have w59 : IntKind.i64.wrap ((f : Int) + g) = f + g := wrap64 (by omega) (by omega)
  have w60 : IntKind.i64.wrap ((f : Int) + g + 1) = k := by rw [wrap64 (by omega) (by omega)]; omega
  have w67 : IntKind.i64.wrap ((k : Int) - f) = k - f := wrap64 (by omega) (by omega)
  have w68 : IntKind.i64.wrap ((k : Int) - f + 1) = k - f + 1 := wrap64 (by omega) (by omega)
  have w70 : IntKind.i64.wrap ((f : Int) + r) = j := by rw [wrap64 (by omega) (by omega)]; omega
  have z1 : ¬ (l.length : Int) - f = 0 := by omega
  have z1' : ¬ (l.length : Int) = f := by omega
  have z1'' : ¬ l.length = f := by omega
  have z2 : ¬ (k : Int) - f + 1 = 0 := by omega
  have fl : f ≤ l.length := by omega
  have jl : j ≤ l.length := by omega
  have kl : k ≤ l.length := by omega
  simp -dsimp [hl, hn, p0, p1, p2, ne_of_lt p0, ne_of_lt p1, ne_of_lt p2, pn, hf, hg, hr, w57, w59, w60, w67, w68, w70, z1, z1', z1'', z2]
  repeat (first | refine ⟨by omega, ?_⟩ | refine ⟨by simp [capMax]; omega, ?_⟩ | refine ⟨⟨by omega, by omega⟩, ?_⟩)
  refine ACallK_of (f33_ok) ?_
  simp -dsimp [fl]
  repeat (first | refine ⟨by omega, ?_⟩ | refine ⟨by simp [capMax]; omega, ?_⟩ | refine ⟨⟨by omega, by omega⟩, ?_⟩)
  refine ACallK_of (doAll_take l ko (by omega) f fl) ?_
  generalize hP : doK (l.take f) stateNew (l.take f).length = P
  generalize cdK (l.take f) stateNew (l.take f).length = CP
  simp -dsimp
  refine ACallK_of (f33_ok) ?_
  simp -dsimp [kl]
  repeat (first | refine ⟨by omega, ?_⟩ | refine ⟨by simp [capMax]; omega, ?_⟩ | refine ⟨⟨by omega, by omega⟩, ?_⟩)
  refine ACallK_of (doAll_take l ko (by omega) k kl) ?_
  generalize hQ : doK (l.take k) stateNew (l.take k).length = Q
  generalize cdK (l.take k) stateNew (l.take k).length = CQ
  simp -dsimp
  refine ACallK_of (f33_ok) ?_
  simp -dsimp [jl]
  repeat (first | refine ⟨by omega, ?_⟩ | refine ⟨by simp [capMax]; omega, ?_⟩ | refine ⟨⟨by omega, by omega⟩, ?_⟩)
  refine ACallK_of (doAll_take l ko (by omega) j jl) ?_
  generalize hR : doK (l.take j) stateNew (l.take j).length = R
  generalize cdK (l.take j) stateNew (l.take j).length = CR
  obtain ⟨d1, d2, sP, sQ, sR⟩ := part_delta hw (by omega) (show f ≤ j by omega) (show j ≤ k by omega) kl hP.symm hQ.symm hR.symm
  have oP := sok_Ok sP
  have oQ := sok_Ok sQ
  have oR := sok_Ok sR
  have od := deltaOf_ok oP oQ
  rw [d1] at od
  simp only at od
  simp -dsimp
  refine ACallK_of (f28_ok P Q oP oQ) ?_
  rw [d1]
  simp -dsimp
  refine ACallK_of (f29_ok R (deltaRaw P Q) oR od) ?_
  simp -dsimp
  refine ACallK_of (f34_ok b hb) ?_
  obtain ⟨u1, u2⟩ := db_Ok hb
  generalize dbA b = uA at *
  generalize dbB b = uB at *
  simp -dsimp
  refine ACallK_of (f28_ok uA uB u1 u2) ?_
  simp -dsimp
  refine ACallK_of (f35_ok uA uB u1 u2) ?_
  have ud := deltaOf_ok u1 u2
  generalize deltaOf uA uB = ue at *
  simp -dsimp
  refine ACallK_of (f36_ok b hb) ?_
  obtain ⟨v1, v2⟩ := dde_Ok hb
  generalize ddeA b = vA at *
  generalize ddeD b = vD at *
  simp -dsimp
  refine ACallK_of (f29_ok vA vD v1 v2) ?_
  simp -dsimp
  refine ACallK_of (f37_ok vA vD v1 v2) ?_
  have vO := doDelta_ok v1 v2
  generalize doDelta vA vD = ve at *
  simp -dsimp
  refine ACallK_of (f38_ok b hb) ?_
  have kO := anyDl_Ok (curNew_ok hb)
  generalize (anyDl (curNew b)).1 = kd at *
  have fin : ∀ x : GState × Int, (x = (Q, 0) ∨ (x.2 = 1 ∧ j = k)) → True := fun _ _ => trivial
  rcases d2 with d2 | ⟨d2, d3⟩
  · rw [d2]
    simp -dsimp
    refine ACallK_of (f13_ok Q Q oQ) ?_
    simp -dsimp
    refine ACallK_of (f39_ok ue.1 ud) ?_
    simp -dsimp
    refine ACallK_of (f13_ok ve.1 ve.1 vO) ?_
    simp -dsimp
    refine ACallK_of (f30_ok kd kO) ?_
    simp -dsimp
    refine ACallK_of (f40_ok kd kO) ?_
    rw [deltaOkS_eq]
    simp -dsimp
  · subst d3
    simp -dsimp [d2]
    refine ACallK_of (f39_ok ue.1 ud) ?_
    simp -dsimp
    refine ACallK_of (f13_ok ve.1 ve.1 vO) ?_
    simp -dsimp
    refine ACallK_of (f30_ok kd kO) ?_
    simp -dsimp
    refine ACallK_of (f40_ok kd kO) ?_
    rw [deltaOkS_eq]
    simp -dsimp
end Am
