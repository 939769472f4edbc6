/- States: the law. No condition. -/
import Derived.Test.YtonemhaagbojeaaT
import Derived.Test.YtonemhaagbojeaaD
import Derived.Test.YtonemhaagbojeaaV1
import Derived.Test.YtonemhaagbojeaaE56
import Derived.Test.YtonemhaagbojeaaE64
import Derived.Test.YtonemhaagbojeaaE93a
import Derived.Test.YtonemhaagbojeaaV7
namespace Am
open Go Go.Proofs
open Cel (cells)
set_option maxRecDepth 100000
set_option linter.unusedSimpArgs false
set_option linter.unusedVariables false

theorem livesOf_pos {s : GState} {i : Nat} (h : i < s.lives.length) : 0 < (livesOf s (nth s.lives i).map (nth s.lives i).obj (nth s.lives i).key).length := by
  unfold livesOf
  rw [filK_filter _ _ _ (Nat.le_refl _), List.take_length]
  exact List.length_pos_of_mem (List.mem_filter.2 ⟨nth_mem h, by simp [livP]⟩)

@[simp] def h6 : Hts := {  }
theorem f6_ok (b : List UInt8) : FnR Try.prog 6 [.v (.im b.length (flat b))] (.v (.bool (decide (1048576 < b.length)))) := by
  refine FnW.of_AW TryT_ok 0 (fn := Try.f6) (by kernel_rfl) rfl (by kernel_rfl) rfl rfl rfl ?_; refine AW_of h6 TryT_ok (by kernel_rfl) ?_
  simp -dsimp
  omega

@[simp] def h3 : Hts := { merge := fun _ => false, mergeF := fun _ => false, dr := fun id => if id = 7 then [{}, {}, {}, {}, {}, {}, {}, { cr := true }, { mb := [40] }, {}] else if id = 12 then [{}, {}, {}, {}, {}, {}, {}, {}, {}, {}, {}, {}, {}, { cr := true }, { mb := [63] }, { mb := [63] }, { mb := [63] }, { mb := [63] }, { mb := [63] }, { mb := [63] }, {}] else if id = 28 then [{}, { cr := true }, {}, {}, {}, { cr := true }, {}, {}, {}, {}, {}, {}, {}, {}, {}, {}, {}, { cr := true }, { mb := [140] }, { mb := [140] }, { cr := true }, {}, {}, {}, {}, { cr := true }, { mb := [148] }, { cr := true }, {}, {}, {}, {}, {}, {}, { cr := true }, { mb := [157] }, { mb := [157] }, { mb := [157] }, { cr := true }, {}, {}, {}, {}, {}, {}, {}, { cr := true }, { mb := [175] }, { mb := [169] }, { mb := [169] }, { mb := [169] }, { mb := [169] }, { cr := true }, {}, {}, {}, {}, {}, {}, { cr := true }, { mb := [182] }, { mb := [182] }, { cr := true }, {}, {}, {}, { cr := true }, { cr := true }, {}, {}] else [] }
set_option maxHeartbeats 8000000 in
theorem f3_ok (b : List UInt8) (hb0 : b.length ≤ 9223372036854775807) : FnR Try.prog 3 [.v (.im b.length (flat b))] (.v (.bool true)) := by
  refine FnW.of_AW TryT_ok 0 (fn := Try.f3) (by kernel_rfl) rfl (by kernel_rfl) rfl rfl rfl ?_; refine AW_of h3 TryT_ok (by kernel_rfl) ?_
  simp -dsimp
  refine ACallK_of (f6_ok b) ?_
  by_cases hb : 1048576 < b.length
  · simp -dsimp [hb]
  have hb : b.length ≤ 1048576 := by omega
  have hb' : ¬ 1048576 < b.length := by omega
  simp -dsimp [hb']
  refine ACallK_of (f7_ok b hb) ?_
  have hS : SOK (drawState b) := stateD_sok _
  have hO := sok_Ok hS
  generalize drawState b = s at *
  have st := hS.t1
  have sl := hS.l1
  have sc := hS.c1
  simp -dsimp
  refine AWh_loop (fun i : Nat => i ≤ s.cs.length) (fun i => mkE [(0, .c (.im b.length (flat b))), (3, .box 192 0), (4, .c (.int .i64 i))] [(192, .box [.arr 1600, .arr 1601, .arr 1602, .arr 1603]), (1600, .arr 0 3 1 s.know.length (flat s.know)), (1601, .arr 0 38 3 s.tallies.length (flat s.tallies)), (1602, .arr 0 40 6 s.lives.length (flat s.lives)), (1603, .arr 0 35 8 s.cs.length (flat s.cs))]) (fun i => s.cs.length - i) 0 (Wk_to [0, 3, 4] [(192, 192), (1600, 1600), (1601, 1601), (1602, 1602), (1603, 1603)] rfl rfl (by simp)) (by simp) ?_
  rintro i hi
  refine AW_of h3 TryT_ok (by kernel_rfl) ?_
  rcases Nat.lt_or_ge i s.cs.length with h1 | h1
  · have hc := cellAt_self hS h1
    have wi : IntKind.i64.wrap ((i : Int) + 1) = i + 1 := wrap64 (by omega) (by omega)
    simp -dsimp [h1, ne_of_lt h1]
    repeat (first | refine ⟨by omega, ?_⟩ | refine ⟨by simp [capMax]; omega, ?_⟩ | refine ⟨⟨by omega, by omega⟩, ?_⟩)
    refine ACallK_of (f8_ok s (nth s.cs i).dot (by omega)) ?_
    rw [hc]
    simp -dsimp [wi]
    exact Back_of (i + 1) [0, 3, 4] [(192, 192), (1600, 1600), (1601, 1601), (1602, 1602), (1603, 1603)] rfl rfl (by simp) (by omega) (by omega)
  obtain rfl : i = s.cs.length := by omega
  simp -dsimp
  refine AWh_loop (fun i : Nat => i ≤ s.tallies.length) (fun i => mkE [(0, .c (.im b.length (flat b))), (3, .box 192 0), (5, .c (.int .i64 i))] [(192, .box [.arr 1600, .arr 1601, .arr 1602, .arr 1603]), (1600, .arr 0 3 1 s.know.length (flat s.know)), (1601, .arr 0 38 3 s.tallies.length (flat s.tallies)), (1602, .arr 0 40 6 s.lives.length (flat s.lives)), (1603, .arr 0 35 8 s.cs.length (flat s.cs))]) (fun i => s.tallies.length - i) 0 (Wk_to [0, 3, 5] [(192, 192), (1600, 1600), (1601, 1601), (1602, 1602), (1603, 1603)] rfl rfl (by simp)) (by simp) ?_
  rintro i hi
  refine AW_of h3 TryT_ok (by kernel_rfl) ?_
  rcases Nat.lt_or_ge i s.tallies.length with h1 | h1
  · have hc := tallyAt_self hS h1
    have wi : IntKind.i64.wrap ((i : Int) + 1) = i + 1 := wrap64 (by omega) (by omega)
    simp -dsimp [h1, ne_of_lt h1]
    repeat (first | refine ⟨by omega, ?_⟩ | refine ⟨by simp [capMax]; omega, ?_⟩ | refine ⟨⟨by omega, by omega⟩, ?_⟩)
    refine ACallK_of (f9_ok s (nth s.tallies i).obj (nth s.tallies i).rep (by omega)) ?_
    rw [hc]
    simp -dsimp [h1, ne_of_lt h1, wi]
    repeat (first | refine ⟨by omega, ?_⟩ | refine ⟨by simp [capMax]; omega, ?_⟩ | refine ⟨⟨by omega, by omega⟩, ?_⟩)
    exact Back_of (i + 1) [0, 3, 5] [(192, 192), (1600, 1600), (1601, 1601), (1602, 1602), (1603, 1603)] rfl rfl (by simp) (by omega) (by omega)
  obtain rfl : i = s.tallies.length := by omega
  simp -dsimp
  refine AWh_loop (fun p : Nat × Nat => p.1 ≤ s.lives.length ∧ p.1 ≤ p.2 ∧ p.2 ≤ p.1 * 120) (fun p => mkE [(0, .c (.im b.length (flat b))), (3, .box 192 0), (6, .c (.int .i64 p.2)), (7, .c (.int .i64 p.1))] [(192, .box [.arr 1600, .arr 1601, .arr 1602, .arr 1603]), (1600, .arr 0 3 1 s.know.length (flat s.know)), (1601, .arr 0 38 3 s.tallies.length (flat s.tallies)), (1602, .arr 0 40 6 s.lives.length (flat s.lives)), (1603, .arr 0 35 8 s.cs.length (flat s.cs))]) (fun p => s.lives.length - p.1) (0, 0) (Wk_to [0, 3, 6, 7] [(192, 192), (1600, 1600), (1601, 1601), (1602, 1602), (1603, 1603)] rfl rfl (by simp)) (by simp) ?_
  rintro ⟨i, n⟩ ⟨hi, hn1, hn2⟩
  simp only at hi hn1 hn2
  refine AW_of h3 TryT_ok (by kernel_rfl) ?_
  rcases Nat.lt_or_ge i s.lives.length with h1 | h1
  · have hc := livesOf_pos h1
    have hl := livesOf_len s (nth s.lives i).map (nth s.lives i).obj (nth s.lives i).key
    have wi : IntKind.i64.wrap ((i : Int) + 1) = i + 1 := wrap64 (by omega) (by omega)
    simp -dsimp [h1, ne_of_lt h1]
    repeat (first | refine ⟨by omega, ?_⟩ | refine ⟨by simp [capMax]; omega, ?_⟩ | refine ⟨⟨by omega, by omega⟩, ?_⟩)
    refine ACallK_of (f10_ok s (nth s.lives i).map (nth s.lives i).obj (nth s.lives i).key (by omega)) ?_
    generalize livesOf s (nth s.lives i).map (nth s.lives i).obj (nth s.lives i).key = l at *
    have hl0 : ¬ l = [] := fun e => by rw [e] at hc; simp at hc
    have wn : IntKind.i64.wrap ((n : Int) + l.length) = n + l.length := wrap64 (by omega) (by omega)
    simp -dsimp [hl0, wi, wn]
    exact Back_of (i + 1, n + l.length) [0, 3, 6, 7] [(192, 192), (1600, 1600), (1601, 1601), (1602, 1602), (1603, 1603)] rfl rfl (by simp) ⟨by simp only; omega, by simp only; omega, by simp only; omega⟩ (by simp only; omega)
  obtain rfl : i = s.lives.length := by omega
  simp -dsimp
  refine ACallK_of (f11_ok b hb) ?_
  have ha1 := anyD_Ok (curNew b)
  generalize (anyD (curNew b)).1 = sa at *
  generalize sameB b = sb at *
  simp -dsimp
  refine ACallK_of (f12_ok b hb) ?_
  have hc1 : (drawStateOk b).Ok := anyD_Ok _
  generalize drawStateOk b = sk at *
  simp -dsimp
  refine ACallK_of (f13_ok b hb) ?_
  have hd1 := anyD_Ok (curPick (curN (curNew b) 5).2 objs).2
  generalize (anyD (curPick (curN (curNew b) 5).2 objs).2).1 = sd at *
  simp -dsimp
  refine ACallK_of (f14_ok b hb) ?_
  have he1 := anyD_Ok (curPick (curPick (curN (curNew b) 2).2 objs).2 keys).2
  generalize (anyD (curPick (curPick (curN (curNew b) 2).2 objs).2 keys).2).1 = se at *
  simp -dsimp
  refine ACallK_of (f15_ok b hb) ?_
  have hf1 := anyD_Ok (dotD (curNew b)).2
  generalize (anyD (dotD (curNew b)).2).1 = sf at *
  simp only [GState.Ok] at hd1 he1 hf1
  simp -dsimp
  refine ACallK_of (f16_ok s hO) ?_
  rw [stateOkM_eq, of_sok hS]
  simp -dsimp
  refine ACallK_of (f17_ok s s hO) ?_
  simp -dsimp [hn1]
  refine ACallK_of (f17_ok sa sb ha1) ?_
  simp -dsimp
  refine ACallK_of (f18_ok sa sb ha1) ?_
  simp -dsimp
  refine ACallK_of (f16_ok sk hc1) ?_
  rw [stateOkM_eq]
  simp -dsimp
  refine ACallK_of (f19_ok sk hc1) ?_
  rw [stateOkS_eq]
  simp -dsimp
  refine ACallK_of (f9_ok sd _ _ (by omega)) ?_
  simp -dsimp
  refine ACallK_of (f20_ok sd _ _ (by omega)) ?_
  simp -dsimp
  refine ACallK_of (f10_ok se _ _ _ (by omega)) ?_
  simp -dsimp
  refine ACallK_of (f21_ok se _ _ _ (by omega)) ?_
  simp -dsimp
  refine ACallK_of (f8_ok sf _ (by omega)) ?_
  simp -dsimp
  refine ACallK_of (f22_ok sf _ (by omega)) ?_
  simp -dsimp
  refine ACallK_of (f23_ok) ?_
  simp -dsimp
  have hz : SOK stateNew := stateNew_sok
  refine ACallK_of (f16_ok stateNew (sok_Ok hz)) ?_
  rw [stateOkM_eq, of_sok hz]
  simp -dsimp
end Am
namespace Am
open Go Go.Proofs
open Cel (cells)
set_option maxRecDepth 100000
set_option linter.unusedSimpArgs false
set_option linter.unusedVariables false

theorem drawSettled_Ok {b : List UInt8} (hb : b.length ≤ 1048576) : (∀ a, a ∈ drawSettled b → a.Ok) ∧ (drawSettled b).length ≤ 8 := by
  have hA := actsK_ok (curNew_ok hb) 8
  refine ⟨fun a ha => hA.o a (shufK_mem _ (Nat.le_refl _) a ha), ?_⟩
  show (shufK _ _ _).1.length ≤ 8
  rw [shufK_len]; exact hA.n
@[simp] theorem act_frzs (l : List GAct) : frzs (flat l) = flat l := flat_frz (fun _ => by simp [Cel.cells, frzs, frz]) l
@[simp] def h4 : Hts := { merge := fun _ => false, mergeF := fun _ => false }
set_option maxHeartbeats 8000000 in
theorem f4_ok (b : List UInt8) (hb0 : b.length ≤ 9223372036854775807) : FnR Try.prog 4 [.v (.im b.length (flat b))] (.v (.bool true)) := by
  refine FnW.of_AW TryT_ok 0 (fn := Try.f4) (by kernel_rfl) rfl (by kernel_rfl) rfl rfl rfl ?_; refine AW_of h4 TryT_ok (by kernel_rfl) ?_
  simp -dsimp
  refine ACallK_of (f6_ok b) ?_
  by_cases hb : 1048576 < b.length
  · simp -dsimp [hb]
  have hb : b.length ≤ 1048576 := by omega
  have hb' : ¬ 1048576 < b.length := by omega
  simp -dsimp [hb']
  refine ACallK_of (f24_ok b hb) ?_
  have hsO := doS_Ok b
  have haO := doA_Ok b
  generalize (doS b).1 = s at *
  generalize doA b = a at *
  simp -dsimp
  refine ACallK_of (f25_ok s a hsO haO) ?_
  simp -dsimp
  refine ACallK_of (f26_ok s a hsO haO) ?_
  simp -dsimp
  refine ACallK_of (f27_ok b hb) ?_
  obtain ⟨hl, hn⟩ := drawSettled_Ok hb
  generalize drawSettled b = l at *
  simp -dsimp
  refine ACallK_of (f28_ok l hl (by omega)) ?_
  simp -dsimp
  refine ACallK_of (f29_ok l hl (by omega)) ?_
  have hZ : (settled l).1.Ok := roundK_Ok hl _
  generalize settled l = z at *
  simp -dsimp
  have hT : (doAct s a).1.Ok := doAct_okW hsO haO
  refine ACallK_of (f18_ok (doAct s a).1 (doAct s a).1 hT) ?_
  simp -dsimp
  refine ACallK_of (f18_ok z.1 z.1 hZ) ?_
  by_cases q : (doAct s a).2 = 0
  · obtain ⟨h1, h2, h3, h4⟩ := doAct_again q
    have hT2 := hT
    have hsO2 := hsO
    simp only [GState.Ok] at hT2 hsO2
    simp -dsimp [q]
    refine ACallK_of (f25_ok (doAct s a).1 a hT haO) ?_
    rw [h4]
    simp -dsimp
    refine ACallK_of (f18_ok (doAct s a).1 (doAct s a).1 hT) ?_
    simp -dsimp
    refine ACallK_of (f30_ok (doAct s a).1.know a.dot (by omega)) ?_
    rw [h2]
    simp -dsimp
    refine ACallK_of (f30_ok s.know a.dot (by omega)) ?_
    rw [h1]
    simp -dsimp
    refine ACallK_of (f19_ok (doAct s a).1 hT) ?_
    rw [stateOkS_eq, h3]
    simp -dsimp
  · have e := doAct_same q
    simp -dsimp [q]
    refine ACallK_of (f18_ok (doAct s a).1 s hT) ?_
    rw [e]
    simp -dsimp
end Am
namespace Am
open Go Go.Proofs
open Cel (cells)
set_option maxRecDepth 100000
set_option linter.unusedSimpArgs false
set_option linter.unusedVariables false

/-- The acts from the last to the first, some of them twice. -/
def revK (l : List GAct) (p : List Int) : Nat → List GAct
  | 0 => []
  | j + 1 => if (nth p ((l.length - 1 - j) % 12)).tmod 3 = 0 then revK l p j ++ [nth l (l.length - 1 - j)] ++ [nth l (l.length - 1 - j)] else revK l p j ++ [nth l (l.length - 1 - j)]
theorem revK_mem {l : List GAct} {p : List Int} : ∀ j : Nat, j ≤ l.length → ∀ x, x ∈ revK l p j ↔ ∃ i : Nat, l.length - j ≤ i ∧ i < l.length ∧ x = nth l i
  | 0, _, x => by simp [revK]; intros; omega
  | j + 1, hj, x => by
    have ih := revK_mem (l := l) (p := p) j (by omega) x
    have key : (x ∈ revK l p j ∨ x = nth l (l.length - 1 - j)) ↔ ∃ i : Nat, l.length - (j + 1) ≤ i ∧ i < l.length ∧ x = nth l i := by
      rw [ih]
      constructor
      · rintro (⟨i, h1, h2, h3⟩ | h)
        · exact ⟨i, by omega, h2, h3⟩
        · exact ⟨l.length - 1 - j, by omega, by omega, h⟩
      · rintro ⟨i, h1, h2, h3⟩
        by_cases e : i = l.length - 1 - j
        · right; rw [h3, e]
        · left; exact ⟨i, by omega, h2, h3⟩
    rw [revK]
    split
    · simp only [List.mem_append, List.mem_singleton]
      rw [← key]
      constructor
      · rintro ((h | h) | h)
        · exact .inl h
        · exact .inr h
        · exact .inr h
      · rintro (h | h)
        · exact .inl (.inl h)
        · exact .inr h
    · simp only [List.mem_append, List.mem_singleton]
      exact key
theorem revK_len (l : List GAct) (p : List Int) : ∀ j, (revK l p j).length ≤ 2 * j
  | 0 => by simp [revK]
  | j + 1 => by
    have := revK_len l p j
    rw [revK]
    split
    · simp only [List.length_append, List.length_singleton]; omega
    · simp only [List.length_append, List.length_singleton]; omega
theorem revK_all {l : List GAct} {p : List Int} (x : GAct) : x ∈ revK l p l.length ↔ x ∈ l := by
  rw [revK_mem _ (Nat.le_refl _)]
  constructor
  · rintro ⟨i, _, h2, rfl⟩; exact nth_mem h2
  · intro h
    obtain ⟨i, hi, rfl⟩ := mem_nth h
    exact ⟨i, by omega, hi, rfl⟩

@[simp] def h36 : Hts := { merge := fun _ => false, dr := fun id => if id = 6 then [{}, {}, {}, {}, {}, {}, {}, {}, {}] else [] }
theorem f36_ok (l : List Int) (hl : l.length ≤ 1073741824) : FnR Try.prog 36 [.v (.im l.length (flat l)), .v (.im l.length (flat l))] (.v (.bool true)) := by
  refine FnW.of_AW TryT_ok 0 (fn := Try.f36) (by kernel_rfl) rfl (by kernel_rfl) rfl rfl rfl ?_; refine AW_of h36 TryT_ok (by kernel_rfl) ?_
  simp -dsimp
  refine AWh_loop (fun i : Nat => i ≤ l.length) (fun i => mkE [(0, .c (.im l.length (flat l))), (1, .c (.im l.length (flat l))), (5, .c (.int .i64 i))] []) (fun i => l.length - i) 0 (Wk_to [0, 1, 5] [] rfl rfl (by simp)) (by simp) ?_
  rintro i hi
  refine AW_of h36 TryT_ok (by kernel_rfl) ?_
  have wi : IntKind.i64.wrap ((i : Int) + 1) = i + 1 := wrap64 (by omega) (by omega)
  rcases Nat.lt_or_ge i l.length with h1 | h1
  · simp -dsimp [h1, ne_of_lt h1, wi]
    exact Back_of (i + 1) [0, 1, 5] [] rfl rfl (by simp) (by omega) (by omega)
  · simp -dsimp [Nat.not_lt.2 h1, h1]

@[simp] def h5 : Hts := { merge := fun _ => false, mergeF := fun _ => false, own := fun d => !(d == 23) }
set_option maxHeartbeats 16000000 in
theorem f5_ok (b : List UInt8) (hb0 : b.length ≤ 9223372036854775807) : FnR Try.prog 5 [.v (.im b.length (flat b))] (.v (.bool true)) := by
  refine FnW.of_AW TryT_ok 0 (fn := Try.f5) (by kernel_rfl) rfl (by kernel_rfl) rfl rfl rfl ?_; refine AW_of h5 TryT_ok (by kernel_rfl) ?_
  simp -dsimp
  refine ACallK_of (f6_ok b) ?_
  by_cases hb : 1048576 < b.length
  · simp -dsimp [hb]
  have hb : b.length ≤ 1048576 := by omega
  have hb' : ¬ 1048576 < b.length := by omega
  simp -dsimp [hb']
  refine ACallK_of (f31_ok b hb) ?_
  have hA := actsK_ok (curNew_ok hb) 9
  have hw := (actsK_whole (curNew b) 9 (by omega)).1
  obtain ⟨_, _, _, ko, kn, _⟩ := hA
  generalize (actsK (curNew b) 9).out = l at *
  simp -dsimp
  refine ACallK_of (f32_ok b hb) ?_
  have hp := drawsK_len (curB (curNew b)).2 10000 12
  generalize (drawsK (curB (curNew b)).2 10000 12).1 = p at *
  simp -dsimp
  refine ACallK_of (f28_ok l ko (by omega)) ?_
  have hs1 := settled_is (l := l) hw (by omega) (fun a => Iff.rfl)
  rw [hs1]
  have hSk : SOK (doK l stateNew l.length) := doK_sok stateNew_sok _
  have hSO := sok_Ok hSk
  have hcz := whole_codes hw l.length (Nat.le_refl _)
  have hcl := cdK_len l stateNew l.length
  generalize hX : doK l stateNew l.length = X at *
  have w1 : IntKind.i64.wrap ((l.length : Int) - 1) = l.length - 1 := wrap64 (by omega) (by omega)
  simp -dsimp [w1]
  refine AWh_loop (fun j : Nat => j ≤ l.length) (fun j => mkE [(0, .c (.im b.length (flat b))), (3, .c (.im l.length (flat l))), (4, .arr 1600), (5, .box 320 0), (6, .c (.int .i64 l.length)), (7, .arr 1984), (8, .c (.int .i64 ((l.length : Int) - 1 - j)))] [(1600, .arr 0 3 1 p.length (flat p)), (320, .box [.arr 1792, .arr 1793, .arr 1794, .arr 1795]), (1792, .arr 0 3 1 X.know.length (flat X.know)), (1793, .arr 0 38 3 X.tallies.length (flat X.tallies)), (1794, .arr 0 40 6 X.lives.length (flat X.lives)), (1795, .arr 0 35 8 X.cs.length (flat X.cs)), (1984, .arr 0 54 10 (revK l p j).length (flat (revK l p j)))]) (fun j => l.length - j) 0 (Wk_to [0, 3, 4, 5, 6, 7, 8] [(1600, 1600), (320, 320), (1792, 1792), (1793, 1793), (1794, 1794), (1795, 1795), (1984, 1984)] rfl rfl (by simp [revK])) (by simp) ?_
  rintro j hj
  have hrl := revK_len l p j
  have eN : revK l p (j + 1) = if (nth p ((l.length - 1 - j) % 12)).tmod 3 = 0 then revK l p j ++ [nth l (l.length - 1 - j)] ++ [nth l (l.length - 1 - j)] else revK l p j ++ [nth l (l.length - 1 - j)] := rfl
  refine AW_of h5 TryT_ok (by kernel_rfl) ?_
  rcases Nat.lt_or_ge j l.length with h1 | h1
  · obtain ⟨i, hi⟩ : ∃ i : Nat, i = l.length - 1 - j := ⟨_, rfl⟩
    have hi' : (l.length : Int) - 1 - j = i := by omega
    have him : i < l.length := by omega
    have e5 : (l.length : Int) - 1 - ((j : Int) + 1) = i - 1 := by omega
    have w3 : IntKind.i64.wrap ((i : Int) - 1) = i - 1 := wrap64 (by omega) (by omega)
    have hpn : ¬ p = [] := fun e => by rw [e] at hp; simp at hp
    obtain ⟨m, hm⟩ : ∃ m : Nat, m = i % 12 := ⟨_, rfl⟩
    have hmp : m < p.length := by omega
    have etp : (i : Int).tmod (p.length : Int) = m := by rw [Int.tmod_eq_emod_of_nonneg (by omega), hp]; omega
    rw [← hi, ← hm] at eN
    by_cases q : (nth p m).tmod 3 = 0
    · rw [if_pos q] at eN
      simp -dsimp [hi', him, ne_of_lt him, etp, hmp, ne_of_lt hmp, hpn, q, w3]
      repeat (first | refine ⟨by omega, ?_⟩ | refine ⟨by simp [capMax]; omega, ?_⟩ | refine ⟨⟨by omega, by omega⟩, ?_⟩)
      exact Back_of (j + 1) [0, 3, 4, 5, 6, 7, 8] [(1600, 1600), (320, 320), (1792, 1792), (1793, 1793), (1794, 1794), (1795, 1795), (1984, 3904)] rfl rfl (by simp [eN, e5]) (by omega) (by omega)
    · rw [if_neg q] at eN
      simp -dsimp [hi', him, ne_of_lt him, etp, hmp, ne_of_lt hmp, hpn, q, w3]
      repeat (first | refine ⟨by omega, ?_⟩ | refine ⟨by simp [capMax]; omega, ?_⟩ | refine ⟨⟨by omega, by omega⟩, ?_⟩)
      exact Back_of (j + 1) [0, 3, 4, 5, 6, 7, 8] [(1600, 1600), (320, 320), (1792, 1792), (1793, 1793), (1794, 1794), (1795, 1795), (1984, 2880)] rfl rfl (by simp [eN, e5]) (by omega) (by omega)
  · have ej : j = l.length := by omega
    subst ej
    have z0 : (l.length : Int) - 1 - l.length < 0 := by omega
    have z1 : ¬ (0 : Int) ≤ (l.length : Int) - 1 - l.length := by omega
    have z2 : ¬ (l.length : Int) ≤ (l.length : Int) - 1 := by omega
    simp -dsimp [z0, z1, z2]
    have hko : ∀ a, a ∈ revK l p l.length → a.Ok := fun a ha => ko a ((revK_all a).1 ha)
    have hs2 := settled_is (l := revK l p l.length) hw (by omega) (fun a => revK_all a)
    generalize revK l p l.length = lr at *
    refine ACallK_of (f28_ok lr hko (by omega)) ?_
    rw [hs2, hX]
    simp -dsimp
    refine ACallK_of (f23_ok) ?_
    simp -dsimp
    refine ACallK_of (f33_ok stateNew l stateNew_ok ko (by omega)) ?_
    rw [hX]
    generalize cdK l stateNew l.length = cd at *
    simp -dsimp
    refine AWh_loop (fun i : Nat => i ≤ cd.length) (fun i => mkE [(0, .c (.im b.length (flat b))), (3, .c (.im l.length (flat l))), (5, .box 320 0), (6, .c (.int .i64 l.length)), (9, .box 576 0), (10, .c (.int .i64 l.length)), (11, .box 704 0), (12, .arr 4500), (13, .c (.int .i64 i))] [(320, .box [.arr 1792, .arr 1793, .arr 1794, .arr 1795]), (1792, .arr 0 3 1 X.know.length (flat X.know)), (1793, .arr 0 38 3 X.tallies.length (flat X.tallies)), (1794, .arr 0 40 6 X.lives.length (flat X.lives)), (1795, .arr 0 35 8 X.cs.length (flat X.cs)), (576, .box [.arr 4096, .arr 4097, .arr 4098, .arr 4099]), (4096, .arr 0 3 1 X.know.length (flat X.know)), (4097, .arr 0 38 3 X.tallies.length (flat X.tallies)), (4098, .arr 0 40 6 X.lives.length (flat X.lives)), (4099, .arr 0 35 8 X.cs.length (flat X.cs)), (704, .box [.arr 4480, .arr 4481, .arr 4482, .arr 4483]), (4480, .arr 0 3 1 X.know.length (flat X.know)), (4481, .arr 0 38 3 X.tallies.length (flat X.tallies)), (4482, .arr 0 40 6 X.lives.length (flat X.lives)), (4483, .arr 0 35 8 X.cs.length (flat X.cs)), (4500, .arr 0 3 1 cd.length (flat cd))]) (fun i => cd.length - i) 0 (Wk_to [0, 3, 5, 6, 9, 10, 11, 12, 13] [(320, 320), (1792, 1792), (1793, 1793), (1794, 1794), (1795, 1795), (576, 576), (4096, 4096), (4097, 4097), (4098, 4098), (4099, 4099), (704, 704), (4480, 4480), (4481, 4481), (4482, 4482), (4483, 4483), (4500, 4500)] rfl rfl (by simp)) (by simp) ?_
    rintro i hi
    refine AW_of h5 TryT_ok (by kernel_rfl) ?_
    have wi : IntKind.i64.wrap ((i : Int) + 1) = i + 1 := wrap64 (by omega) (by omega)
    rcases Nat.lt_or_ge i cd.length with h2 | h2
    · have hz := hcz _ (nth_mem h2)
      simp -dsimp [h2, ne_of_lt h2, hz, wi]
      exact Back_of (i + 1) [0, 3, 5, 6, 9, 10, 11, 12, 13] [(320, 320), (1792, 1792), (1793, 1793), (1794, 1794), (1795, 1795), (576, 576), (4096, 4096), (4097, 4097), (4098, 4098), (4099, 4099), (704, 704), (4480, 4480), (4481, 4481), (4482, 4482), (4483, 4483), (4500, 4500)] rfl rfl (by simp) (by omega) (by omega)
    obtain rfl : i = cd.length := by omega
    simp -dsimp
    refine ACallK_of (f34_ok b hb) ?_
    have hdS := daS_Ok b
    obtain ⟨hdL, hdn⟩ := daL_Ok hb
    generalize daS b = ds at *
    generalize daL b = dl at *
    simp -dsimp
    refine ACallK_of (f33_ok ds dl hdS hdL (by omega)) ?_
    simp -dsimp
    refine ACallK_of (f35_ok ds dl hdS hdL (by omega)) ?_
    simp -dsimp
    have hZ : (doK dl ds dl.length).Ok := doK_Ok hdL hdS _ (Nat.le_refl _)
    have hcn := cdK_len dl ds dl.length
    generalize doK dl ds dl.length = zs at *
    generalize cdK dl ds dl.length = zc at *
    refine ACallK_of (f18_ok X X hSO) ?_
    simp -dsimp
    refine ACallK_of (f18_ok X X hSO) ?_
    simp -dsimp
    refine ACallK_of (f19_ok X hSO) ?_
    rw [stateOkS_eq, of_sok hSk]
    simp -dsimp
    refine ACallK_of (f18_ok zs zs hZ) ?_
    simp -dsimp
    refine ACallK_of (f36_ok zc (by omega)) ?_
    simp -dsimp
end Am
