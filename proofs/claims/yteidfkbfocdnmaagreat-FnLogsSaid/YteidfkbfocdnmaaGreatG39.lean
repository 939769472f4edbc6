/- A log is what was done; what comes early waits: the law. No condition. -/
import Derived.Test.YteidfkbfocdnmaaGreatT
import Derived.Test.YteidfkbfocdnmaaGreatD
import Derived.Test.YteidfkbfocdnmaaGreatV20
import Derived.Test.YteidfkbfocdnmaaGreatE93a
namespace Am
open Go Go.Proofs
open Cel (cells)
set_option maxRecDepth 100000
set_option linter.unusedSimpArgs false
set_option linter.unusedVariables false

@[simp] def h90 : Hts := { merge := fun _ => false }
theorem f90_ok (r : Int) : FnR Tryz.prog 90 [.v (.int .i64 r)] (.agg [.int .i64 (logNew r).rep, .int .i64 (logNew r).time, .ow 3 1 (logNew r).state.know.length (flat (logNew r).state.know), .ow 179 3 (logNew r).state.tallies.length (flat (logNew r).state.tallies), .ow 159 6 (logNew r).state.lives.length (flat (logNew r).state.lives), .ow 72 8 (logNew r).state.cs.length (flat (logNew r).state.cs), .ow 99 17 (logNew r).units.length (flatO (logNew r).units), .ow 99 17 (logNew r).waits.length (flatO (logNew r).waits)]) := by
  rw [logNew]
  refine FnW.of_AW TryzT_ok 0 (fn := Tryz.f90) (by kernel_rfl) rfl (by kernel_rfl) rfl rfl rfl ?_; refine AW_of h90 TryzT_ok (by kernel_rfl) ?_
  simp -dsimp
  refine ACallK_of (f230_ok) ?_
  simp -dsimp [stateNew]
theorem nth_rev {us : List GUnit} {i : Nat} (h : i < us.length) : nth us.reverse i = nth us (us.length - 1 - i) := by
  rw [nth_eq (by simpa using h), nth_eq (by omega), List.getElem_reverse]

@[simp] def h9 : Hts := { merge := fun _ => false, mergeF := fun _ => false, own := fun d => !(d == 14 || d == 18 || d == 34 || d == 54 || d == 72), dr := fun id => if id = 9 then [{}, {}, {}, {}, {}, {}, { cr := true }, {}, {}, { mn := [320] }, { wr := [320] }] else if id = 15 then [{}, {}, {}, {}, {}, {}, { cr := true }, {}, {}, { mn := [320] }, { wr := [320] }] else if id = 21 then [{}, {}, {}, {}, {}, {}, { cr := true }, {}, {}, { mn := [512] }, { wr := [512] }, {}] else [] }
set_option maxHeartbeats 16000000 in
theorem f9_ok (b : List UInt8) (hb0 : b.length ≤ 9223372036854775807) : FnR Tryz.prog 9 [.v (.im b.length (flat b))] (.v (.bool true)) := by
  refine FnW.of_AW TryzT_ok 0 (fn := Tryz.f9) (by kernel_rfl) rfl (by kernel_rfl) rfl rfl rfl ?_; refine AW_of h9 TryzT_ok (by kernel_rfl) ?_
  simp -dsimp
  refine ACallK_of (f12_ok b) ?_
  by_cases hb : 1048576 < b.length
  · simp -dsimp [hb]
  have hb : b.length ≤ 1048576 := by omega
  have hb' : ¬ 1048576 < b.length := by omega
  simp -dsimp [hb']
  refine ACallK_of (f87_ok b hb) ?_
  obtain ⟨out, _, hL⟩ := logsK_log (curN (curNew b) 8).2 (dlN b) (by have := dlN_le b; omega)
  have hdl : logsK (curN (curNew b) 8).2 (dlN b) = dlL b := rfl
  rw [hdl] at hL
  have hW := hL.w
  have hF := hL.a.lg
  have e0 : nth (listL (dlL b).lg) 0 = (dlL b).lg.1 := rfl
  have hl3 : 0 < (listL (dlL b).lg).length := by rw [listL_len]; decide
  generalize (dlL b).lg = lg at *
  have hus : ∀ u, u ∈ lg.1.units → u.batch = false ∧ u.act ∈ out ∧ unitOk u = true := fun u hu => ⟨(hF.un u hu).1, (hF.un u hu).2, unit_right hF hu⟩
  have husr : ∀ u, u ∈ lg.1.units.reverse → u.batch = false ∧ u.act ∈ out ∧ unitOk u = true := fun u hu => hus u (List.mem_reverse.1 hu)
  have hE0 : Early (logNew 2) := fun u hu => by cases hu
  have hN : LG out (logNew 2) := logNew_log (by decide) (by decide)
  have hA := fun i hi => hear_log hW husr hN hE0 i hi
  simp only [List.length_reverse] at hA
  have hF60 := hF.ok.u
  have hFO := hF.Ok
  have h8 : List.take 8 (flat (listL lg)) = [.int .i64 lg.1.rep, .int .i64 lg.1.time, .im lg.1.state.know.length (flat lg.1.state.know), .im lg.1.state.tallies.length (flat lg.1.state.tallies), .im lg.1.state.lives.length (flat lg.1.state.lives), .im lg.1.state.cs.length (flat lg.1.state.cs), .im lg.1.units.length (flat lg.1.units), .im lg.1.waits.length (flat lg.1.waits)] := rfl
  have hne : (listL lg = []) = False := eq_false (by simp [listL])
  have h24 : (flat (listL lg)).length = 24 := rfl
  simp -dsimp [flat_frzO, h8, hne, h24]
  refine ACallK_of (f90_ok 2) ?_
  have wl : IntKind.i64.wrap ((lg.1.units.length : Int) - 1) = lg.1.units.length - 1 := wrap64 (by omega) (by omega)
  simp -dsimp [wl]
  have hplain : ∀ {m : GLog}, LG out m → plainU m.units := fun h => h.plain
  refine AWh_loop (fun i : Nat => i ≤ lg.1.units.length) (fun i => mkE [(4, .box 256 0), (5, .box 320 0), (6, .c (.int .i64 ((lg.1.units.length : Int) - 1 - i)))] [(256, .box [.c (.int .i64 lg.1.rep), .c (.int .i64 lg.1.time), .c (.im lg.1.state.know.length (flat lg.1.state.know)), .c (.im lg.1.state.tallies.length (flat lg.1.state.tallies)), .c (.im lg.1.state.lives.length (flat lg.1.state.lives)), .c (.im lg.1.state.cs.length (flat lg.1.state.cs)), .c (.im lg.1.units.length (flat lg.1.units)), .c (.im lg.1.waits.length (flat lg.1.waits))]), (320, .box [.c (.int .i64 ((hearK lg.1.units.reverse (logNew 2) i)).rep), .c (.int .i64 ((hearK lg.1.units.reverse (logNew 2) i)).time), .c (.im ((hearK lg.1.units.reverse (logNew 2) i)).state.know.length (flat ((hearK lg.1.units.reverse (logNew 2) i)).state.know)), .c (.im ((hearK lg.1.units.reverse (logNew 2) i)).state.tallies.length (flat ((hearK lg.1.units.reverse (logNew 2) i)).state.tallies)), .c (.im ((hearK lg.1.units.reverse (logNew 2) i)).state.lives.length (flat ((hearK lg.1.units.reverse (logNew 2) i)).state.lives)), .c (.im ((hearK lg.1.units.reverse (logNew 2) i)).state.cs.length (flat ((hearK lg.1.units.reverse (logNew 2) i)).state.cs)), .c (.im ((hearK lg.1.units.reverse (logNew 2) i)).units.length (flat ((hearK lg.1.units.reverse (logNew 2) i)).units)), .c (.im ((hearK lg.1.units.reverse (logNew 2) i)).waits.length (flat ((hearK lg.1.units.reverse (logNew 2) i)).waits))])]) (fun i => lg.1.units.length - i) 0 (Wk_to [4, 5, 6] [(256, 256), (320, 320)] rfl rfl (by simp [hearK])) (by simp) ?_
  rintro i hi
  obtain ⟨k1, _, _, _⟩ := hA i hi
  have kO := k1.Ok
  refine AW_of h9 TryzT_ok (by kernel_rfl) ?_
  rcases Nat.lt_or_ge i lg.1.units.length with p1 | p1
  · have ej : (lg.1.units.length : Int) - 1 - i = ((lg.1.units.length - 1 - i : Nat) : Int) := by omega
    have hj : lg.1.units.length - 1 - i < lg.1.units.length := by omega
    have er := nth_rev p1
    have eS : hearK lg.1.units.reverse (logNew 2) (i + 1) = (heardM (hearK lg.1.units.reverse (logNew 2) i) (nth lg.1.units (lg.1.units.length - 1 - i))).1 := by
      rw [hearK, er]
    obtain ⟨n1, _, _, _⟩ := hA (i + 1) (by omega)
    rw [eS] at n1
    have wj : IntKind.i64.wrap (((lg.1.units.length - 1 - i : Nat) : Int) - 1) = (lg.1.units.length : Int) - 1 - ((i : Int) + 1) := by rw [wrap64 (by omega) (by omega)]; omega
    rw [ej]
    generalize lg.1.units.length - 1 - i = j at *
    have huj := unit_Ok (hus _ (nth_mem hj)).2.2 (hus _ (nth_mem hj)).1
    simp -dsimp [hj, ne_of_lt hj]
    repeat (first | refine ⟨by omega, ?_⟩ | refine ⟨by simp [capMax]; omega, ?_⟩ | refine ⟨⟨by omega, by omega⟩, ?_⟩)
    refine ACallK_of (f91_ok _ _ kO huj k1.plain) ?_
    simp -dsimp
    refine ACallK_of (f92_ok _ n1.Ok n1.plain) ?_
    rw [logOk_iff.2 n1.ok]
    simp -dsimp [wj]
    exact Back_of (i + 1) [4, 5, 6] [(256, 256), (320, 320)] rfl rfl (by simp [eS]) (by omega) (by omega)
  obtain rfl : i = lg.1.units.length := by omega
  have em : (lg.1.units.length : Int) - 1 - lg.1.units.length = -1 := by omega
  rw [em]
  have hnil : (logNew 2).units = [] ∧ (logNew 2).waits = [] := ⟨rfl, rfl⟩
  obtain ⟨_, a2, a3, a4⟩ := hA lg.1.units.length (Nat.le_refl _)
  have aS : ∀ u, u ∈ (hearK lg.1.units.reverse (logNew 2) lg.1.units.length).units ∨ u ∈ (hearK lg.1.units.reverse (logNew 2) lg.1.units.length).waits → u ∈ lg.1.units := fun u hu => by
    rcases hu with hu | hu
    · rcases a3.n u hu with h | h | h
      · rw [hnil.1] at h; cases h
      · exact List.mem_reverse.1 h
      · rw [hnil.2] at h; cases h
    · rcases a4 u hu with h | h
      · exact List.mem_reverse.1 h
      · rw [hnil.2] at h; cases h
  clear hA a3 a4 em
  generalize hearK lg.1.units.reverse (logNew 2) lg.1.units.length = A at *
  have hB := fun i hi => hear_log hW hus k1 a2 i hi
  obtain ⟨z1, z2, z3, z4, z5⟩ := logs_law hW hF k1 a2 aS
  simp -dsimp
  refine AWh_loop (fun i : Nat => i ≤ lg.1.units.length) (fun i => mkE [(4, .box 256 0), (5, .box 320 0), (7, .c (.int .i64 i))] [(256, .box [.c (.int .i64 lg.1.rep), .c (.int .i64 lg.1.time), .c (.im lg.1.state.know.length (flat lg.1.state.know)), .c (.im lg.1.state.tallies.length (flat lg.1.state.tallies)), .c (.im lg.1.state.lives.length (flat lg.1.state.lives)), .c (.im lg.1.state.cs.length (flat lg.1.state.cs)), .c (.im lg.1.units.length (flat lg.1.units)), .c (.im lg.1.waits.length (flat lg.1.waits))]), (320, .box [.c (.int .i64 ((hearK lg.1.units A i)).rep), .c (.int .i64 ((hearK lg.1.units A i)).time), .c (.im ((hearK lg.1.units A i)).state.know.length (flat ((hearK lg.1.units A i)).state.know)), .c (.im ((hearK lg.1.units A i)).state.tallies.length (flat ((hearK lg.1.units A i)).state.tallies)), .c (.im ((hearK lg.1.units A i)).state.lives.length (flat ((hearK lg.1.units A i)).state.lives)), .c (.im ((hearK lg.1.units A i)).state.cs.length (flat ((hearK lg.1.units A i)).state.cs)), .c (.im ((hearK lg.1.units A i)).units.length (flat ((hearK lg.1.units A i)).units)), .c (.im ((hearK lg.1.units A i)).waits.length (flat ((hearK lg.1.units A i)).waits))])]) (fun i => lg.1.units.length - i) 0 (Wk_to [4, 5, 7] [(256, 256), (320, 320)] rfl rfl (by simp [hearK])) (by simp) ?_
  rintro i hi
  obtain ⟨k1, _, _, _⟩ := hB i hi
  have kO := k1.Ok
  have wi : IntKind.i64.wrap ((i : Int) + 1) = i + 1 := wrap64 (by omega) (by omega)
  refine AW_of h9 TryzT_ok (by kernel_rfl) ?_
  rcases Nat.lt_or_ge i lg.1.units.length with p1 | p1
  · have huj := unit_Ok (hus _ (nth_mem p1)).2.2 (hus _ (nth_mem p1)).1
    simp -dsimp [p1, ne_of_lt p1]
    repeat (first | refine ⟨by omega, ?_⟩ | refine ⟨by simp [capMax]; omega, ?_⟩ | refine ⟨⟨by omega, by omega⟩, ?_⟩)
    refine ACallK_of (f91_ok _ _ kO huj k1.plain) ?_
    simp -dsimp [wi]
    exact Back_of (i + 1) [4, 5, 7] [(256, 256), (320, 320)] rfl rfl (by simp [hearK]) (by omega) (by omega)
  obtain rfl : i = lg.1.units.length := by omega
  clear hB
  generalize hearK lg.1.units A lg.1.units.length = B at *
  simp -dsimp
  refine AWh_loop (fun i : Nat => i ≤ lg.1.units.length) (fun i => mkE [(4, .box 256 0), (5, .box 320 0), (8, .box 512 0), (10, .c (.int .i64 i))] [(256, .box [.c (.int .i64 lg.1.rep), .c (.int .i64 lg.1.time), .c (.im lg.1.state.know.length (flat lg.1.state.know)), .c (.im lg.1.state.tallies.length (flat lg.1.state.tallies)), .c (.im lg.1.state.lives.length (flat lg.1.state.lives)), .c (.im lg.1.state.cs.length (flat lg.1.state.cs)), .c (.im lg.1.units.length (flat lg.1.units)), .c (.im lg.1.waits.length (flat lg.1.waits))]), (320, .box [.c (.int .i64 B.rep), .c (.int .i64 B.time), .c (.im B.state.know.length (flat B.state.know)), .c (.im B.state.tallies.length (flat B.state.tallies)), .c (.im B.state.lives.length (flat B.state.lives)), .c (.im B.state.cs.length (flat B.state.cs)), .c (.im B.units.length (flat B.units)), .c (.im B.waits.length (flat B.waits))]), (512, .box [.c (.int .i64 B.rep), .c (.int .i64 B.time), .c (.im B.state.know.length (flat B.state.know)), .c (.im B.state.tallies.length (flat B.state.tallies)), .c (.im B.state.lives.length (flat B.state.lives)), .c (.im B.state.cs.length (flat B.state.cs)), .c (.im B.units.length (flat B.units)), .c (.im B.waits.length (flat B.waits))])]) (fun i => lg.1.units.length - i) 0 (Wk_to [4, 5, 8, 10] [(256, 256), (320, 320), (512, 512)] rfl rfl (by simp)) (by simp) ?_
  rintro i hi
  have wi : IntKind.i64.wrap ((i : Int) + 1) = i + 1 := wrap64 (by omega) (by omega)
  refine AW_of h9 TryzT_ok (by kernel_rfl) ?_
  rcases Nat.lt_or_ge i lg.1.units.length with p1 | p1
  · have huj := unit_Ok (hus _ (nth_mem p1)).2.2 (hus _ (nth_mem p1)).1
    have hold := z5 _ (nth_mem p1)
    simp -dsimp [p1, ne_of_lt p1]
    repeat (first | refine ⟨by omega, ?_⟩ | refine ⟨by simp [capMax]; omega, ?_⟩ | refine ⟨⟨by omega, by omega⟩, ?_⟩)
    refine ACallK_of (f91_ok _ _ kO huj k1.plain) ?_
    rw [hold]
    simp -dsimp [wi]
    exact Back_of (i + 1) [4, 5, 8, 10] [(256, 256), (320, 320), (512, 512)] rfl rfl (by simp) (by omega) (by omega)
  obtain rfl : i = lg.1.units.length := by omega
  have kS : B.state.Ok := by simp only [GLog.Ok] at kO; exact kO.1
  simp -dsimp
  refine ACallK_of (f92_ok _ kO k1.plain) ?_
  rw [z1]
  simp -dsimp
  refine ACallK_of (f23_ok _ _ kS) ?_
  rw [decide_eq_true z2]
  have zl : B.waits.length = 0 := by rw [z3]; rfl
  have hw := f93_ok B kO
  rw [zl] at hw
  simp -dsimp [zl]
  refine ACallK_of (hw) ?_
  simp -dsimp [z4]
end Am
