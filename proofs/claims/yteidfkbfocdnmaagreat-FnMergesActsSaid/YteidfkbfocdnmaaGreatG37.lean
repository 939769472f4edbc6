/- What two become is what all their acts come to: the law. No condition. -/
import Derived.Test.YteidfkbfocdnmaaGreatT
import Derived.Test.YteidfkbfocdnmaaGreatD
import Derived.Test.YteidfkbfocdnmaaGreatU23
import Derived.Test.YteidfkbfocdnmaaGreatV7
import Derived.Test.YteidfkbfocdnmaaGreatE56
import Derived.Test.YteidfkbfocdnmaaGreatE18
import Derived.Test.YteidfkbfocdnmaaGreatE93a
namespace Am
open Go Go.Proofs
open Cel (cells)
set_option maxRecDepth 100000
set_option linter.unusedSimpArgs false
set_option linter.unusedVariables false

@[simp] theorem act_frzsM (l : List GAct) : frzs (flat l) = flat l := flat_frz (fun _ => by simp [Cel.cells, frzs, frz]) l
def oneK (l : List GAct) (p : List Int) : Nat → List GAct
  | 0 => []
  | i + 1 => if 0 < (nth p (i % 12)).tmod 3 then oneK l p i ++ [nth l i] else oneK l p i
def twoK (l : List GAct) (p : List Int) : Nat → List GAct
  | 0 => []
  | i + 1 => if (nth p (i % 12)).tmod 3 < 2 then twoK l p i ++ [nth l i] else twoK l p i
theorem oneK_mem {l : List GAct} {p : List Int} : ∀ i : Nat, i ≤ l.length → (∀ a, a ∈ oneK l p i → a ∈ l) ∧ (oneK l p i).length ≤ i
  | 0, _ => by simp [oneK]
  | i + 1, hi => by
    obtain ⟨h1, h2⟩ := oneK_mem (l := l) (p := p) i (by omega)
    rw [oneK]
    split
    · refine ⟨fun a ha => ?_, by simp only [List.length_append, List.length_singleton]; omega⟩
      rcases List.mem_append.1 ha with ha | ha
      · exact h1 a ha
      · rw [List.mem_singleton.1 ha]; exact nth_mem (by omega)
    · exact ⟨h1, by omega⟩
theorem twoK_mem {l : List GAct} {p : List Int} : ∀ i : Nat, i ≤ l.length → (∀ a, a ∈ twoK l p i → a ∈ l) ∧ (twoK l p i).length ≤ i
  | 0, _ => by simp [twoK]
  | i + 1, hi => by
    obtain ⟨h1, h2⟩ := twoK_mem (l := l) (p := p) i (by omega)
    rw [twoK]
    split
    · refine ⟨fun a ha => ?_, by simp only [List.length_append, List.length_singleton]; omega⟩
      rcases List.mem_append.1 ha with ha | ha
      · exact h1 a ha
      · rw [List.mem_singleton.1 ha]; exact nth_mem (by omega)
    · exact ⟨h1, by omega⟩
def allK (l : List GAct) (k : List Int) (i : Nat) : List GAct := (l.take i).filter fun x => knows k x.dot
theorem allK_succ {l : List GAct} {k : List Int} {i : Nat} (h : i < l.length) : allK l k (i + 1) = if knows k (nth l i).dot = true then allK l k i ++ [nth l i] else allK l k i := by
  unfold allK
  rw [take_snoc h, List.filter_append]
  cases q : knows k (nth l i).dot <;> simp [q]
theorem allK_len (l : List GAct) (k : List Int) (i : Nat) : (allK l k i).length ≤ i := by
  have h1 := List.length_filter_le (fun x : GAct => knows k x.dot) (l.take i)
  rw [List.length_take] at h1
  unfold allK; omega

theorem clashesOf_lenM (a b c : GState) : (clashesOf a b c).length ≤ b.lives.length := by
  unfold clashesOf
  split
  · have h1 := compC_len (sortC (rawC a b c))
    have h2 := (sortC_perm (rawC a b c)).length_eq
    have h3 := rawK_len b c (newIn a c) (newIn a b) (newIn a b).length
    have h4 := newIn_len a b
    unfold rawC at *
    omega
  · simp

@[simp] def h3 : Hts := { merge := fun _ => false, mergeF := fun _ => false, own := fun d => !(d == 30), dr := fun id => if id = 21 then [{}, {}, {}, {}, {}, {}, {}, { cr := true }] else if id = 32 then [{}, {}, {}, {}, {}, {}, {}, {}, {}, {}, {}, {}, {}, {}, {}, {}] else if id = 34 then [{}, {}, {}, {}, {}, {}, {}, { cr := true }, {}, {}, {}, {}, { cr := true }, { mb := [171] }, { mb := [171] }, { cr := true }, { cr := true }, {}, {}, {}, {}, {}, {}, {}, {}, {}, {}, {}, { cr := true }, { mb := [187] }, { mb := [187] }, { cr := true }, {}, {}, {}] else [] }
set_option maxHeartbeats 16000000 in
theorem f3_ok (b : List UInt8) (hb0 : b.length ≤ 9223372036854775807) : FnR Tryz.prog 3 [.v (.im b.length (flat b))] (.v (.bool true)) := by
  refine FnW.of_AW TryzT_ok 0 (fn := Tryz.f3) (by kernel_rfl) rfl (by kernel_rfl) rfl rfl rfl ?_; refine AW_of h3 TryzT_ok (by kernel_rfl) ?_
  simp -dsimp
  refine ACallK_of (f12_ok b) ?_
  by_cases hb : 1048576 < b.length
  · simp -dsimp [hb]
  have hb : b.length ≤ 1048576 := by omega
  have hb' : ¬ 1048576 < b.length := by omega
  simp -dsimp [hb']
  refine ACallK_of (f13_ok b hb) ?_
  have hA := actsK_ok (curNew_ok hb) 9
  have hw := (actsK_whole (curNew b) 9 (by omega)).1
  have hmd := actsK_made (curNew b) 9 (by omega)
  obtain ⟨_, _, _, ko, kn, _⟩ := hA
  generalize (actsK (curNew b) 9).out = l at *
  simp -dsimp
  refine ACallK_of (f14_ok b hb) ?_
  have hp := drawsK_len (curB (curNew b)).2 10000 12
  generalize (drawsK (curB (curNew b)).2 10000 12).1 = p at *
  have hpn : ¬ p = [] := fun e => by rw [e] at hp; simp at hp
  simp -dsimp
  refine AWh_loop (fun i : Nat => i ≤ l.length) (fun i => mkE [(0, .c (.im b.length (flat b))), (3, .c (.im l.length (flat l))), (4, .arr 2048), (5, .arr 2112), (6, .arr 2176), (7, .c (.int .i64 i))] [(2048, .arr 0 3 1 p.length (flat p)), (2112, .arr 0 31 10 (oneK l p i).length (flat (oneK l p i))), (2176, .arr 0 31 10 (twoK l p i).length (flat (twoK l p i)))]) (fun i => l.length - i) 0 (Wk_to [0, 3, 4, 5, 6, 7] [(2048, 2048), (2112, 2112), (2176, 2176)] rfl rfl (by simp [oneK, twoK])) (by simp) ?_
  rintro i hi
  have ho := (oneK_mem (p := p) i hi).2
  have ht := (twoK_mem (p := p) i hi).2
  have e1 : oneK l p (i + 1) = if 0 < (nth p (i % 12)).tmod 3 then oneK l p i ++ [nth l i] else oneK l p i := rfl
  have e2 : twoK l p (i + 1) = if (nth p (i % 12)).tmod 3 < 2 then twoK l p i ++ [nth l i] else twoK l p i := rfl
  have wi : IntKind.i64.wrap ((i : Int) + 1) = i + 1 := wrap64 (by omega) (by omega)
  refine AW_of h3 TryzT_ok (by kernel_rfl) ?_
  rcases Nat.lt_or_ge i l.length with h1 | h1
  · obtain ⟨m, hm⟩ : ∃ m : Nat, m = i % 12 := ⟨_, rfl⟩
    have hmp : m < p.length := by omega
    have etp : (i : Int).tmod (p.length : Int) = m := by rw [Int.tmod_eq_emod_of_nonneg (by omega), hp]; omega
    rw [← hm] at e1 e2
    by_cases q1 : 0 < (nth p m).tmod 3
    · rw [if_pos q1] at e1
      by_cases q2 : (nth p m).tmod 3 < 2
      · rw [if_pos q2] at e2
        simp -dsimp [h1, ne_of_lt h1, etp, hmp, ne_of_lt hmp, hpn, q1, q2, wi]
        repeat (first | refine ⟨by omega, ?_⟩ | refine ⟨by simp [capMax]; omega, ?_⟩ | refine ⟨⟨by omega, by omega⟩, ?_⟩)
        exact Back_of (i + 1) [0, 3, 4, 5, 6, 7] [(2048, 2048), (2112, 3584), (2176, 4608)] rfl rfl (by simp [e1, e2]) (by omega) (by omega)
      · rw [if_neg q2] at e2
        simp -dsimp [h1, ne_of_lt h1, etp, hmp, ne_of_lt hmp, hpn, q1, q2, Int.not_lt.1 q2, wi]
        repeat (first | refine ⟨by omega, ?_⟩ | refine ⟨by simp [capMax]; omega, ?_⟩ | refine ⟨⟨by omega, by omega⟩, ?_⟩)
        exact Back_of (i + 1) [0, 3, 4, 5, 6, 7] [(2048, 2048), (2112, 3584), (2176, 2176)] rfl rfl (by simp [e1, e2]) (by omega) (by omega)
    · rw [if_neg q1] at e1
      have q2 : (nth p m).tmod 3 < 2 := by omega
      rw [if_pos q2] at e2
      simp -dsimp [h1, ne_of_lt h1, etp, hmp, ne_of_lt hmp, hpn, q1, Int.not_lt.1 q1, q2, wi]
      repeat (first | refine ⟨by omega, ?_⟩ | refine ⟨by simp [capMax]; omega, ?_⟩ | refine ⟨⟨by omega, by omega⟩, ?_⟩)
      exact Back_of (i + 1) [0, 3, 4, 5, 6, 7] [(2048, 2048), (2112, 2112), (2176, 4608)] rfl rfl (by simp [e1, e2]) (by omega) (by omega)
  obtain rfl : i = l.length := by omega
  simp -dsimp
  have o1 := (oneK_mem (p := p) l.length (Nat.le_refl _)).1
  have o2 := (twoK_mem (p := p) l.length (Nat.le_refl _)).1
  generalize oneK l p l.length = one at *
  generalize twoK l p l.length = two at *
  refine ACallK_of (f15_ok one (fun a ha => ko a (o1 a ha)) (by omega)) ?_
  simp -dsimp
  refine ACallK_of (f15_ok two (fun a ha => ko a (o2 a ha)) (by omega)) ?_
  obtain ⟨hall, hM⟩ := merge_settled hw hmd (by omega) o1 o2
  have oS1 : (settled one).1.Ok := roundK_Ok (fun a ha => ko a (o1 a ha)) _
  have oS2 : (settled two).1.Ok := roundK_Ok (fun a ha => ko a (o2 a ha)) _
  simp -dsimp
  refine ACallK_of (f16_ok (settled one).1 (settled two).1 oS1 oS2) ?_
  generalize mergeState (settled one).1 (settled two).1 = M at *
  have oM := sok_Ok hM
  have oM2 := oM
  simp only [GState.Ok] at oM2
  simp -dsimp
  refine AWh_loop (fun i : Nat => i ≤ l.length) (fun i => mkE [(0, .c (.im b.length (flat b))), (3, .c (.im l.length (flat l))), (12, .box 768 0), (13, .arr 5504), (14, .c (.int .i64 i))] [(768, .box [.arr 5440, .arr 5441, .arr 5442, .arr 5443]), (5440, .arr 0 3 1 M.know.length (flat M.know)), (5441, .arr 0 179 3 M.tallies.length (flat M.tallies)), (5442, .arr 0 159 6 M.lives.length (flat M.lives)), (5443, .arr 0 72 8 M.cs.length (flat M.cs)), (5504, .arr 0 31 10 (allK l M.know i).length (flat (allK l M.know i)))]) (fun i => l.length - i) 0 (Wk_to [0, 3, 12, 13, 14] [(768, 768), (5440, 5440), (5441, 5441), (5442, 5442), (5443, 5443), (5504, 5504)] rfl rfl (by simp [allK])) (by simp) ?_
  rintro i hi
  have hal := allK_len l M.know i
  have wi : IntKind.i64.wrap ((i : Int) + 1) = i + 1 := wrap64 (by omega) (by omega)
  refine AW_of h3 TryzT_ok (by kernel_rfl) ?_
  rcases Nat.lt_or_ge i l.length with h1 | h1
  · have es := allK_succ (k := M.know) h1
    simp -dsimp [h1, ne_of_lt h1]
    repeat (first | refine ⟨by omega, ?_⟩ | refine ⟨by simp [capMax]; omega, ?_⟩ | refine ⟨⟨by omega, by omega⟩, ?_⟩)
    refine ACallK_of (f17_ok M.know (nth l i).dot (by omega)) ?_
    cases q : knows M.know (nth l i).dot
    · rw [q, if_neg (by simp)] at es
      simp -dsimp [wi]
      exact Back_of (i + 1) [0, 3, 12, 13, 14] [(768, 768), (5440, 5440), (5441, 5441), (5442, 5442), (5443, 5443), (5504, 5504)] rfl rfl (by simp [es]) (by omega) (by omega)
    · rw [q, if_pos rfl] at es
      simp -dsimp [h1, ne_of_lt h1, wi]
      repeat (first | refine ⟨by omega, ?_⟩ | refine ⟨by simp [capMax]; omega, ?_⟩ | refine ⟨⟨by omega, by omega⟩, ?_⟩)
      exact Back_of (i + 1) [0, 3, 12, 13, 14] [(768, 768), (5440, 5440), (5441, 5441), (5442, 5442), (5443, 5443), (5504, 6848)] rfl rfl (by simp [es]) (by omega) (by omega)
  obtain rfl : i = l.length := by omega
  simp -dsimp
  have eA : allK l M.know l.length = l.filter fun x => knows M.know x.dot := by unfold allK; rw [List.take_length]
  rw [← eA] at hall
  have hao : ∀ a, a ∈ allK l M.know l.length → a.Ok := fun a ha => by
    rw [eA] at ha
    exact ko a (List.mem_filter.1 ha).1
  generalize allK l M.know l.length = al at *
  refine ACallK_of (f15_ok al hao (by omega)) ?_
  rw [hall]
  simp -dsimp
  refine ACallK_of (f18_ok b hb) ?_
  obtain ⟨x1, x2⟩ := dm_Ok hb
  generalize dmA b = xA at *
  generalize dmB b = xB at *
  simp -dsimp
  refine ACallK_of (f19_ok b hb) ?_
  obtain ⟨y1, y2, y3⟩ := dcAll_Ok hb
  generalize (dcAll b).1 = yA at *
  generalize (dcAll b).2.1 = yB at *
  generalize (dcAll b).2.2 = yC at *
  simp -dsimp
  refine ACallK_of (f20_ok yA yB yC y1 y2 y3) ?_
  simp -dsimp
  refine ACallK_of (f21_ok yA yB yC y1 y2 y3) ?_
  have hL : (clashesOf yA yB yC).length ≤ 1073741824 := by
    have h1 := clashesOf_lenM yA yB yC
    have h2 := y2
    simp only [GState.Ok] at h2
    omega
  generalize clashesOf yA yB yC = L at *
  simp -dsimp
  refine ACallK_of (f22_ok b hb) ?_
  obtain ⟨v1, v2⟩ := db_Ok hb
  generalize dbA b = vA at *
  generalize dbB b = vB at *
  simp -dsimp
  refine AWh_loop (fun i : Nat => i ≤ L.length) (fun i => mkE [(12, .box 768 0), (13, .arr 5504), (15, .box 960 0), (16, .c (.int .i64 al.length)), (17, .box 1088 0), (18, .box 1152 0), (22, .arr 8128), (23, .arr 8384), (24, .box 1536 0), (25, .box 1600 0), (26, .c (.int .i64 i))] [(768, .box [.arr 5440, .arr 5441, .arr 5442, .arr 5443]), (5440, .arr 0 3 1 M.know.length (flat M.know)), (5441, .arr 0 179 3 M.tallies.length (flat M.tallies)), (5442, .arr 0 159 6 M.lives.length (flat M.lives)), (5443, .arr 0 72 8 M.cs.length (flat M.cs)), (960, .box [.arr 7040, .arr 7041, .arr 7042, .arr 7043]), (7040, .arr 0 3 1 M.know.length (flat M.know)), (7041, .arr 0 179 3 M.tallies.length (flat M.tallies)), (7042, .arr 0 159 6 M.lives.length (flat M.lives)), (7043, .arr 0 72 8 M.cs.length (flat M.cs)), (5504, .arr 0 31 10 al.length (flat al)), (1088, .box [.c (.im xA.know.length (flat xA.know)), .c (.im xA.tallies.length (flat xA.tallies)), .c (.im xA.lives.length (flat xA.lives)), .c (.im xA.cs.length (flat xA.cs))]), (1152, .box [.c (.im xB.know.length (flat xB.know)), .c (.im xB.tallies.length (flat xB.tallies)), .c (.im xB.lives.length (flat xB.lives)), .c (.im xB.cs.length (flat xB.cs))]), (8128, .arr 0 48 2 L.length (flat L)), (8384, .arr 0 48 2 L.length (flat L)), (1536, .box [.c (.im vA.know.length (flat vA.know)), .c (.im vA.tallies.length (flat vA.tallies)), .c (.im vA.lives.length (flat vA.lives)), .c (.im vA.cs.length (flat vA.cs))]), (1600, .box [.c (.im vB.know.length (flat vB.know)), .c (.im vB.tallies.length (flat vB.tallies)), .c (.im vB.lives.length (flat vB.lives)), .c (.im vB.cs.length (flat vB.cs))])]) (fun i => L.length - i) 0 (Wk_to [12, 13, 15, 16, 17, 18, 22, 23, 24, 25, 26] [(768, 768), (5440, 5440), (5441, 5441), (5442, 5442), (5443, 5443), (960, 960), (7040, 7040), (7041, 7041), (7042, 7042), (7043, 7043), (5504, 5504), (1088, 1088), (1152, 1152), (8128, 8128), (8384, 8384), (1536, 1536), (1600, 1600)] rfl rfl (by simp)) (by simp) ?_
  rintro i hi
  have wi : IntKind.i64.wrap ((i : Int) + 1) = i + 1 := wrap64 (by omega) (by omega)
  refine AW_of h3 TryzT_ok (by kernel_rfl) ?_
  rcases Nat.lt_or_ge i L.length with h1 | h1
  · simp -dsimp [h1, ne_of_lt h1, wi]
    refine ⟨by omega, ?_⟩
    exact Back_of (i + 1) [12, 13, 15, 16, 17, 18, 22, 23, 24, 25, 26] [(768, 768), (5440, 5440), (5441, 5441), (5442, 5442), (5443, 5443), (960, 960), (7040, 7040), (7041, 7041), (7042, 7042), (7043, 7043), (5504, 5504), (1088, 1088), (1152, 1152), (8128, 8128), (8384, 8384), (1536, 1536), (1600, 1600)] rfl rfl (by simp) (by omega) (by omega)
  obtain rfl : i = L.length := by omega
  simp -dsimp
  refine ACallK_of (f23_ok M M oM) ?_
  simp -dsimp
  refine ACallK_of (f16_ok xA xB x1 x2) ?_
  simp -dsimp
  refine ACallK_of (f24_ok xA xB x1 x2) ?_
  simp -dsimp
  refine ACallK_of (f23_ok (mergeState xA xB) (mergeState xA xB) (mergeState_ok x1 x2)) ?_
  simp -dsimp
  refine ACallK_of (f25_ok vA vB v1 v2) ?_
  simp -dsimp
  refine ACallK_of (f26_ok vA vB v1 v2) ?_
  simp -dsimp
end Am
