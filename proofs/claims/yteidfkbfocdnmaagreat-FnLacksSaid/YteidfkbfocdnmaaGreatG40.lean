/- What one lacks is what it gets: the law. No condition. -/
import Derived.Test.YteidfkbfocdnmaaGreatT
import Derived.Test.YteidfkbfocdnmaaGreatD
import Derived.Test.YteidfkbfocdnmaaGreatV20
import Derived.Test.YteidfkbfocdnmaaGreatU35
import Derived.Test.YteidfkbfocdnmaaGreatE9
import Derived.Test.YteidfkbfocdnmaaGreatE56
import Derived.Test.YteidfkbfocdnmaaGreatE93a
namespace Am
open Go Go.Proofs
open Cel (cells)
set_option maxRecDepth 100000
set_option linter.unusedSimpArgs false
set_option linter.unusedVariables false

theorem hear_LG {out : List GAct} (hW : Wd out) {us : List GUnit} (hu : ∀ u, u ∈ us → u.batch = false ∧ u.act ∈ out ∧ unitOk u = true) {l : GLog} (h : LG out l) : ∀ i : Nat, i ≤ us.length → LG out (hearK us l i)
  | 0, _ => h
  | i + 1, hi => by
    obtain ⟨u1, u2, u3⟩ := hu _ (nth_mem (show i < us.length by omega))
    exact (heard_log hW (hear_LG hW hu h i (by omega)) u1 u2 u3).1
theorem lackK_mem {l : GLog} {k : List Int} : ∀ i : Nat, i ≤ l.units.length → ∀ u, u ∈ lackK l k i → u ∈ l.units
  | 0, _, u, hu => by simp [lackK] at hu
  | i + 1, hi, u, hu => by
    rw [lackK] at hu
    split at hu
    · exact lackK_mem i (by omega) u hu
    · rcases List.mem_append.1 hu with hu | hu
      · exact lackK_mem i (by omega) u hu
      · rw [List.mem_singleton.1 hu]; exact nth_mem (by omega)
theorem lackOf_mem {l : GLog} {k : List Int} : ∀ u, u ∈ lackOf l k → u ∈ l.units := fun u hu => by
  unfold lackOf at hu
  split at hu
  · exact lackK_mem _ (Nat.le_refl _) u hu
  · cases hu

@[simp] def h8 : Hts := { merge := fun _ => false, mergeF := fun _ => false, own := fun d => !(d == 13 || d == 24 || d == 37 || d == 59 || d == 78 || d == 99), dr := fun id => if id = 10 then [{ mb := [8] }, { mb := [8] }, { mb := [8] }, { mb := [8] }, { mb := [8] }, { cr := true, mb := [8] }, { mb := [8] }, { mb := [8] }, { mn := [512], mb := [8] }, { cr := true, mb := [37] }, { wr := [512] }, {}] else if id = 14 then [{}, {}, {}, {}, {}, {}, { cr := true }, {}, {}, {}, {}, {}, { cr := true }, {}, {}, {}, {}, {}, {}, {}, {}, {}, {}, {}, {}, {}, {}, {}, {}, {}, {}, { cr := true }, { mb := [78] }, { mb := [78] }, { cr := true }, {}, {}, {}, {}, {}, {}, {}, {}, {}, { mb := [99] }, { mb := [99] }, {}, {}, {}, {}, {}, {}, { cr := true }, { cr := true }, {}, {}, {}] else [] }
set_option maxHeartbeats 16000000 in
theorem f8_ok (b : List UInt8) (hb0 : b.length ≤ 9223372036854775807) : FnR Tryz.prog 8 [.v (.im b.length (flat b))] (.v (.bool true)) := by
  refine FnW.of_AW TryzT_ok 0 (fn := Tryz.f8) (by kernel_rfl) rfl (by kernel_rfl) rfl rfl rfl ?_; refine AW_of h8 TryzT_ok (by kernel_rfl) ?_
  simp -dsimp
  refine ACallK_of (f12_ok b) ?_
  by_cases hb : 1048576 < b.length
  · simp -dsimp [hb]
  have hb : b.length ≤ 1048576 := by omega
  have hb' : ¬ 1048576 < b.length := by omega
  simp -dsimp [hb']
  refine ACallK_of (f87_ok b hb) ?_
  obtain ⟨out, _, hL⟩ := logsK_log (curN (curNew b) 8).2 (dlN b) (by have := dlN_le b; omega)
  have hdl : logsK (curN (curNew b) 8).2 (dlN b) = dlL b := rfl
  rw [hdl] at hL
  have hW := hL.w
  have hA := hL.a.lg
  have hB := hL.b.lg
  generalize (dlL b).lg = lg at *
  have q8 : List.take 8 (flat (listL lg)) = [.int .i64 lg.1.rep, .int .i64 lg.1.time, .im lg.1.state.know.length (flat lg.1.state.know), .im lg.1.state.tallies.length (flat lg.1.state.tallies), .im lg.1.state.lives.length (flat lg.1.state.lives), .im lg.1.state.cs.length (flat lg.1.state.cs), .im lg.1.units.length (flat lg.1.units), .im lg.1.waits.length (flat lg.1.waits)] := rfl
  have q8b : List.take 8 (List.drop 8 (flat (listL lg))) = [.int .i64 lg.2.1.rep, .int .i64 lg.2.1.time, .im lg.2.1.state.know.length (flat lg.2.1.state.know), .im lg.2.1.state.tallies.length (flat lg.2.1.state.tallies), .im lg.2.1.state.lives.length (flat lg.2.1.state.lives), .im lg.2.1.state.cs.length (flat lg.2.1.state.cs), .im lg.2.1.units.length (flat lg.2.1.units), .im lg.2.1.waits.length (flat lg.2.1.waits)] := rfl
  have q8s : List.take 4 (List.drop 2 (flat (listL lg))) = [.im lg.1.state.know.length (flat lg.1.state.know), .im lg.1.state.tallies.length (flat lg.1.state.tallies), .im lg.1.state.lives.length (flat lg.1.state.lives), .im lg.1.state.cs.length (flat lg.1.state.cs)] := rfl
  have q8w : (flat (listL lg))[7]? = some (.im lg.1.waits.length (flat lg.1.waits)) := rfl
  have q8x : (flat (listL lg))[7]'(by show 7 < 24; decide) = .im lg.1.waits.length (flat lg.1.waits) := rfl
  have hne : (listL lg = []) = False := eq_false (by simp [listL])
  have q24 : (flat (listL lg)).length = 24 := rfl
  obtain ⟨a, c, e⟩ := lg
  simp only at hA hB q8 q8b q8s q8w q8x
  have bus : ∀ u, u ∈ c.units → u.batch = false ∧ u.act ∈ out ∧ unitOk u = true := fun u hu => ⟨(hB.un u hu).1, (hB.un u hu).2, unit_right hB hu⟩
  have hAO := hA.Ok
  have hBO := hB.Ok
  have hAO2 := hAO
  have hBO2 := hBO
  simp only [GLog.Ok, GState.Ok] at hAO2 hBO2
  simp -dsimp [flat_frzO, q8, q8b, hne, q24]
  refine ACallK_of (f85_ok c a.state.know hBO (by omega)) ?_
  have hlk := lacks_law hW hA hB (l := lackOf c a.state.know) rfl rfl
  have hus : ∀ u, u ∈ lackOf c a.state.know → u.batch = false ∧ u.act ∈ out ∧ unitOk u = true := fun u hu => bus u (lackOf_mem u hu)
  have hlen := lackK_len c a.state.know c.units.length
  have hll : (lackOf c a.state.know).length ≤ 60 := by
    have := hB.ok.u
    unfold lackOf
    split
    · omega
    · simp
  have hK := fun i hi => hear_LG hW hus hA i hi
  clear hlen
  generalize lackOf c a.state.know = us at *
  obtain ⟨hcd, z1, z2, z3, z4, z5, z6⟩ := hlk
  simp -dsimp
  refine AWh_loop (fun i : Nat => i ≤ us.length) (fun i => mkE [(3, .c (.im 3 (flat (listL (a, c, e))))), (4, .box 256 0), (5, .box 320 0), (6, .c (.im us.length (flat us))), (7, .c (.int .i64 i))] [(256, .box [.c (.int .i64 ((hearK us a i)).rep), .c (.int .i64 ((hearK us a i)).time), .c (.im ((hearK us a i)).state.know.length (flat ((hearK us a i)).state.know)), .c (.im ((hearK us a i)).state.tallies.length (flat ((hearK us a i)).state.tallies)), .c (.im ((hearK us a i)).state.lives.length (flat ((hearK us a i)).state.lives)), .c (.im ((hearK us a i)).state.cs.length (flat ((hearK us a i)).state.cs)), .c (.im ((hearK us a i)).units.length (flat ((hearK us a i)).units)), .c (.im ((hearK us a i)).waits.length (flat ((hearK us a i)).waits))]), (320, .box [.c (.int .i64 c.rep), .c (.int .i64 c.time), .c (.im c.state.know.length (flat c.state.know)), .c (.im c.state.tallies.length (flat c.state.tallies)), .c (.im c.state.lives.length (flat c.state.lives)), .c (.im c.state.cs.length (flat c.state.cs)), .c (.im c.units.length (flat c.units)), .c (.im c.waits.length (flat c.waits))])]) (fun i => us.length - i) 0 (Wk_to [3, 4, 5, 6, 7] [(256, 256), (320, 320)] rfl rfl (by simp [hearK, flat_frzO])) (by simp) ?_
  rintro i hi
  have k1 := hK i hi
  have kO := k1.Ok
  have wi : IntKind.i64.wrap ((i : Int) + 1) = i + 1 := wrap64 (by omega) (by omega)
  refine AW_of h8 TryzT_ok (by kernel_rfl) ?_
  rcases Nat.lt_or_ge i us.length with p1 | p1
  · have huj := unit_Ok (hus _ (nth_mem p1)).2.2 (hus _ (nth_mem p1)).1
    simp -dsimp [p1, ne_of_lt p1]
    repeat (first | refine ⟨by omega, ?_⟩ | refine ⟨by simp [capMax]; omega, ?_⟩ | refine ⟨⟨by omega, by omega⟩, ?_⟩)
    refine ACallK_of (f88_ok _ _ kO huj) ?_
    rcases hcd i p1 with hc | hc
    · simp -dsimp [hc, wi]
      exact Back_of (i + 1) [3, 4, 5, 6, 7] [(256, 256), (320, 320)] rfl rfl (by simp [hearK]) (by omega) (by omega)
    · simp -dsimp [hc, wi]
      exact Back_of (i + 1) [3, 4, 5, 6, 7] [(256, 256), (320, 320)] rfl rfl (by simp [hearK]) (by omega) (by omega)
  obtain rfl : i = us.length := by omega
  clear hK hcd
  generalize hearK us a us.length = m at *
  have kO2 := kO
  simp only [GLog.Ok, GState.Ok] at kO2
  have aS : a.state.Ok := by simp only [GLog.Ok] at hAO; exact hAO.1
  have cS : c.state.Ok := by simp only [GLog.Ok] at hBO; exact hBO.1
  have mS : m.state.Ok := by simp only [GLog.Ok] at kO; exact kO.1
  have zl : ((us.length : Int) ≤ c.units.length) = True := eq_true (by omega)
  simp -dsimp
  refine ACallK_of (f89_ok c.state.know m.state.know (by omega) (by omega)) ?_
  rw [z2]
  simp -dsimp
  refine ACallK_of (f85_ok c m.state.know hBO (by omega)) ?_
  rw [z3]
  simp -dsimp [zl, q8s, hne, q24]
  refine ACallK_of (f24_ok _ _ aS cS) ?_
  have mO := mergeState_ok aS cS
  simp -dsimp
  refine ACallK_of (f26_ok _ _ mO mS) ?_
  rw [z5]
  by_cases hw : a.waits = []
  · have hw' : ((0 : Int) < a.waits.length) = False := eq_false (by rw [hw]; simp)
    have hw2 : (0 < a.waits.length) = False := eq_false (by rw [hw]; simp)
    simp -dsimp [q8w, q8x, hw2, hw', q8s, hne, q24]
    refine ACallK_of (f24_ok _ _ aS cS) ?_
    simp -dsimp
    refine ACallK_of (f23_ok _ _ mS) ?_
    simp -dsimp [z6 hw]
  · have hw' : ((0 : Int) < a.waits.length) = True := eq_true (by have := List.length_pos_iff.2 hw; omega)
    have hw2 : (0 < a.waits.length) = True := eq_true (List.length_pos_iff.2 hw)
    simp -dsimp [q8w, q8x, hw2, hw', hne, q24]
end Am
