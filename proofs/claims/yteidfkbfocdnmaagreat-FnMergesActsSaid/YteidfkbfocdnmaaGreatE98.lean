/- Lives at a key, their values in order, what is new: of both. No condition. -/
import Derived.Test.YteidfkbfocdnmaaGreatT
import Derived.Test.YteidfkbfocdnmaaGreatD
import Derived.Test.YteidfkbfocdnmaaGreatE2
import Derived.Test.YteidfkbfocdnmaaGreatE56
import Derived.Test.YteidfkbfocdnmaaGreatE93a
import Derived.Test.YteidfkbfocdnmaaGreatY3
import Derived.Test.YteidfkbfocdnmaaGreatAm31
namespace Am
open Go Go.Proofs
open Cel (cells)
set_option maxRecDepth 100000
set_option linter.unusedSimpArgs false
set_option linter.unusedVariables false

end Am
namespace Am
open Go Go.Proofs
open Cel (cells)
set_option maxRecDepth 100000
set_option linter.unusedSimpArgs false
set_option linter.unusedVariables false

def vlK (l : List GLive) : Nat → List Int
  | 0 => []
  | i + 1 => vlK l i ++ [(nth l i).val]
@[simp] theorem vlK_len (l : List GLive) : ∀ i, (vlK l i).length = i
  | 0 => rfl
  | i + 1 => by simp [vlK, vlK_len l i]
def mapOf (s : GState) (o k : ByteArray) : List Int := sortI (vlK (livesOf s true o k) (livesOf s true o k).length)
theorem mapOf_len (s : GState) (o k : ByteArray) : (mapOf s o k).length ≤ s.lives.length := by
  rw [mapOf, sortI_len, vlK_len]; exact livesOf_len _ _ _ _

/-- Put before the first that is greater. -/
def insG (v : Int) : Bool → List Int → List Int
  | p, [] => if p then [] else [v]
  | p, x :: r => if !p && decide (v < x) then v :: x :: insG v true r else x :: insG v p r
theorem insG_true (v : Int) : ∀ l, insG v true l = l
  | [] => rfl
  | x :: r => by simp [insG, insG_true v r]
theorem insG_perm (v : Int) : ∀ l, (insG v false l).Perm (v :: l)
  | [] => List.Perm.refl _
  | x :: r => by
    rw [insG]
    split
    · rw [insG_true]
    · exact ((insG_perm v r).cons x).trans (List.Perm.swap v x r)
theorem insG_sorted (v : Int) : ∀ l : List Int, l.Pairwise (· ≤ ·) → (insG v false l).Pairwise (· ≤ ·)
  | [], _ => by simp [insG]
  | x :: r, h => by
    obtain ⟨h1, h2⟩ := List.pairwise_cons.1 h
    rw [insG]
    split
    · rename_i hlt
      simp only [Bool.not_false, Bool.true_and, decide_eq_true_eq] at hlt
      rw [insG_true]
      refine List.pairwise_cons.2 ⟨fun y hy => ?_, h⟩
      rcases List.mem_cons.1 hy with rfl | hy
      · omega
      · have := h1 y hy; omega
    · rename_i hlt
      simp only [Bool.not_false, Bool.true_and, decide_eq_true_eq] at hlt
      refine List.pairwise_cons.2 ⟨fun y hy => ?_, insG_sorted v r h2⟩
      rcases List.mem_cons.1 ((insG_perm v r).mem_iff.1 hy) with rfl | hy
      · omega
      · exact h1 y hy
theorem insG_len (v : Int) (p : Bool) : ∀ l : List Int, (insG v p l).length = l.length + (bif p then 0 else 1) := by
  intro l
  cases p
  · have := (insG_perm v l).length_eq
    simpa using this
  · simp [insG_true]
def insA (l : List GLive) : Nat → List Int
  | 0 => []
  | i + 1 => insG (nth l i).val false (insA l i)
@[simp] theorem insA_len (l : List GLive) : ∀ i, (insA l i).length = i
  | 0 => rfl
  | i + 1 => by simp [insA, insG_len, insA_len l i]
theorem insA_perm (l : List GLive) : ∀ i, (insA l i).Perm (vlK l i)
  | 0 => List.Perm.refl _
  | i + 1 => ((insG_perm _ _).trans ((insA_perm l i).cons _)).trans (by rw [vlK]; exact (List.perm_append_singleton _ _).symm)
theorem insA_sorted (l : List GLive) : ∀ i, (insA l i).Pairwise (· ≤ ·)
  | 0 => List.Pairwise.nil
  | i + 1 => insG_sorted _ _ (insA_sorted l i)
theorem insA_eq (l : List GLive) (i : Nat) : insA l i = sortI (vlK l i) := by
  refine List.Perm.eq_of_pairwise (le := (· ≤ ·)) (fun a b _ _ h1 h2 => Int.le_antisymm h1 h2) (insA_sorted l i) ?_ ((insA_perm l i).trans (List.mergeSort_perm _ _).symm)
  have := List.pairwise_mergeSort (le := fun x y : Int => decide (x ≤ y)) (fun a b c h1 h2 => by simp only [decide_eq_true_eq] at *; omega) (fun a b => by simp only [Bool.or_eq_true, decide_eq_true_eq]; omega) (vlK l i)
  unfold sortI
  simpa only [decide_eq_true_eq] using this

@[simp] def h57 : Hts := { merge := fun _ => false, mergeF := fun _ => false, lend := fun f => if f = 176 then [.lend] else [] }
set_option maxHeartbeats 2000000 in
theorem f57_ok (s : GState) (o k : ByteArray) (ha : s.lives.length ≤ 1073741824) : FnR Tryz.prog 57 [.agg [.im s.know.length (flat s.know), .im s.tallies.length (flat s.tallies), .im s.lives.length (flat s.lives), .im s.cs.length (flat s.cs)], .v (.str o), .v (.str k)] (.v (.ow 3 1 (mapOf s o k).length (flat (mapOf s o k)))) := by
  have hll := livesOf_len s true o k
  refine FnW.of_AW TryzT_ok 0 (fn := Tryz.f57) (by kernel_rfl) rfl (by kernel_rfl) rfl rfl rfl ?_; refine AW_of h57 TryzT_ok (by kernel_rfl) ?_
  simp -dsimp
  refine ACallK_of (f175_ok _ _ _ _ ha) ?_
  simp -dsimp
  refine AWh_loop (fun i : Nat => i ≤ (livesOf s true o k).length) (fun i => mkE [(7, .arr 448), (14, .arr 896), (15, .c (.int .i64 (livesOf s true o k).length)), (16, .c (.int .i64 i))] [(448, .arr 0 3 1 i (flat (vlK (livesOf s true o k) i))), (896, .arr 0 159 6 (livesOf s true o k).length (flat (livesOf s true o k)))]) (fun i => (livesOf s true o k).length - i) 0 (Wk_to [7, 14, 15, 16] [(448, 640), (896, 896)] rfl rfl (by simp [vlK])) (by simp) ?_
  rintro i hi
  refine AW_of h57 TryzT_ok (by kernel_rfl) ?_
  rcases Nat.lt_or_ge i (livesOf s true o k).length with h1 | h1
  · simp -dsimp [h1, ne_of_lt h1]
    repeat (first | refine ⟨by omega, ?_⟩ | refine ⟨by simp [capMax]; omega, ?_⟩ | refine ⟨⟨by omega, by omega⟩, ?_⟩)
    exact Back_of (i + 1) [7, 14, 15, 16] [(448, 1536), (896, 896)] rfl rfl (by simp [vlK]; rw [wrap64 (by omega) (by omega)]) (by omega) (by omega)
  · obtain rfl : i = (livesOf s true o k).length := by omega
    simp -dsimp
    have hc := f176_ok (vlK (livesOf s true o k) (livesOf s true o k).length) (by simp; omega)
    rw [vlK_len] at hc
    refine ACallW_args (by intro us; simp -dsimp; exact ⟨rfl, rfl, rfl⟩) ?_
    refine ACallC_of (fun us => hc) (by intro us; simp -dsimp; exact ⟨rfl, rfl⟩) ?_
    simp -dsimp
    simp [mapOf, sortI_len]

@[simp] def h41 : Hts := { merge := fun _ => false, mergeF := fun _ => false, dr := fun id => if id = 11 then [{}, {}, {}, {}, {}, {}, {}, {}, {}, {}, {}, {}, {}, {}] else [] }
set_option maxHeartbeats 4000000 in
theorem f41_ok (s : GState) (o k : ByteArray) (ha : s.lives.length ≤ 1073741824) : FnR Tryz.prog 41 [.agg [.im s.know.length (flat s.know), .im s.tallies.length (flat s.tallies), .im s.lives.length (flat s.lives), .im s.cs.length (flat s.cs)], .v (.str o), .v (.str k)] (.v (.ow 3 1 (mapOf s o k).length (flat (mapOf s o k)))) := by
  have hll := livesOf_len s true o k
  refine FnW.of_AW TryzT_ok 0 (fn := Tryz.f41) (by kernel_rfl) rfl (by kernel_rfl) rfl rfl rfl ?_; refine AW_of h41 TryzT_ok (by kernel_rfl) ?_
  simp -dsimp
  refine ACallK_of (f39_ok _ _ _ _ ha) ?_
  simp -dsimp
  generalize hL : livesOf s true o k = L at hll ⊢
  refine AWh_loop (fun i : Nat => i ≤ L.length) (fun i => mkE [(7, .arr 448), (8, .arr 1088), (9, .c (.int .i64 i))] [(448, .arr 0 3 1 i (flat (insA L i))), (1088, .arr 0 159 6 L.length (flat L))]) (fun i => L.length - i) 0 (Wk_to [7, 8, 9] [(448, 832), (1088, 1088)] rfl rfl (by simp [insA])) (by simp) ?_
  rintro i hi
  have hil := insA_len L i
  refine AW_of h41 TryzT_ok (by kernel_rfl) ?_
  rcases Nat.lt_or_ge i L.length with h1 | h1
  · simp -dsimp [h1, ne_of_lt h1]
    refine AWh_loop (fun q : Nat × Bool × List Int => q.1 ≤ i ∧ q.2.2.length ≤ q.1 + (bif q.2.1 then 1 else 0) ∧ q.2.2 ++ insG (nth L i).val q.2.1 ((insA L i).drop q.1) = insA L (i + 1)) (fun q => mkE [(7, .arr 448), (8, .arr 1088), (9, .c (.int .i64 i)), (10, .arr 640), (11, .c (.bool q.2.1)), (12, .c (.int .i64 q.1))] [(448, .arr 0 3 1 i (flat (insA L i))), (640, .arr 0 3 1 q.2.2.length (flat q.2.2)), (1088, .arr 0 159 6 L.length (flat L))]) (fun q => i - q.1) (0, false, []) (Wk_to [7, 8, 9, 10, 11, 12] [(448, 448), (640, 1536), (1088, 1088)] rfl rfl (by simp)) (by simp [insA]) ?_
    rintro ⟨j, p, out⟩ ⟨hj, hl, hgo⟩
    simp only at hj hl hgo
    refine AW_of h41 TryzT_ok (by kernel_rfl) ?_
    rcases Nat.lt_or_ge j i with p1 | p1
    · have p2 : j < (insA L i).length := by omega
      have hne := ne_of_lt p2
      have hd : (insA L i).drop j = nth (insA L i) j :: (insA L i).drop (j + 1) := by rw [List.drop_eq_getElem_cons p2, ← nth_eq p2]
      rw [hd] at hgo
      have hw : IntKind.i64.wrap ((j : Int) + 1) = (j : Int) + 1 := wrap64 (by omega) (by omega)
      cases p with
      | true =>
        simp only [cond_true] at hl
        simp -dsimp [h1, ne_of_lt h1, p1, hil, hne, hw]
        repeat (first | refine ⟨by omega, ?_⟩ | refine ⟨by simp [capMax]; omega, ?_⟩ | refine ⟨⟨by omega, by omega⟩, ?_⟩)
        exact Back_of (j + 1, true, out ++ [nth (insA L i) j]) [7, 8, 9, 10, 11, 12] [(448, 448), (640, 3776), (1088, 1088)] rfl rfl (by simp) ⟨by simp only; omega, by simp; omega, by rw [← hgo]; simp [insG]⟩ (by simp only; omega)
      | false =>
        simp only [cond_false] at hl
        by_cases g : (nth L i).val < nth (insA L i) j
        · simp -dsimp [h1, ne_of_lt h1, p1, hil, hne, hw, g]
          repeat (first | refine ⟨by omega, ?_⟩ | refine ⟨by simp [capMax]; omega, ?_⟩ | refine ⟨⟨by omega, by omega⟩, ?_⟩)
          exact Back_of (j + 1, true, out ++ [(nth L i).val] ++ [nth (insA L i) j]) [7, 8, 9, 10, 11, 12] [(448, 448), (640, 3776), (1088, 1088)] rfl rfl (by simp) ⟨by simp only; omega, by simp; omega, by rw [← hgo]; simp [insG, g]⟩ (by simp only; omega)
        · simp -dsimp [h1, ne_of_lt h1, p1, hil, hne, hw, g]
          repeat (first | refine ⟨by omega, ?_⟩ | refine ⟨by simp [capMax]; omega, ?_⟩ | refine ⟨⟨by omega, by omega⟩, ?_⟩)
          exact Back_of (j + 1, false, out ++ [nth (insA L i) j]) [7, 8, 9, 10, 11, 12] [(448, 448), (640, 3776), (1088, 1088)] rfl rfl (by simp) ⟨by simp only; omega, by simp; omega, by rw [← hgo]; simp [insG, g]⟩ (by simp only; omega)
    · obtain rfl : j = i := by omega
      rw [List.drop_of_length_le (by omega)] at hgo
      cases p with
      | true =>
        simp only [cond_true, insG, if_true, List.append_nil] at hgo
        have hol : out.length = j + 1 := by rw [hgo, insA_len]
        simp -dsimp [h1, ne_of_lt h1]
        repeat (first | refine ⟨by omega, ?_⟩ | refine ⟨by simp [capMax]; omega, ?_⟩ | refine ⟨⟨by omega, by omega⟩, ?_⟩)
        exact Back_of (j + 1) [7, 8, 9] [(448, 640), (1088, 1088)] rfl rfl (by simp [hgo, hol]; rw [wrap64 (by omega) (by omega)]) (by omega) (by omega)
      | false =>
        have hgo' : out ++ [(nth L j).val] = insA L (j + 1) := by simpa [insG] using hgo
        have hol : out.length = j := by have := congrArg List.length hgo'; simp at this; omega
        simp -dsimp [h1, ne_of_lt h1]
        repeat (first | refine ⟨by omega, ?_⟩ | refine ⟨by simp [capMax]; omega, ?_⟩ | refine ⟨⟨by omega, by omega⟩, ?_⟩)
        exact Back_of (j + 1) [7, 8, 9] [(448, 4416), (1088, 1088)] rfl rfl (by simp [← hgo', hol]; rw [wrap64 (by omega) (by omega)]) (by omega) (by omega)
  · obtain rfl : i = L.length := by omega
    simp -dsimp
    rw [insA_eq, ← hL]
    simp [mapOf, sortI_len]

def nwlK (base s : GState) : Nat → List GClash
  | 0 => []
  | i + 1 => if (nth s.lives i).map && !knows base.know (nth s.lives i).dot then nwlK base s i ++ [⟨(nth s.lives i).obj, (nth s.lives i).key⟩] else nwlK base s i
theorem nwlK_len (base s : GState) : ∀ i, (nwlK base s i).length ≤ i
  | 0 => Nat.le_refl _
  | i + 1 => by
    have := nwlK_len base s i
    rw [nwlK]; split
    · simp; omega
    · omega
def newIn (base s : GState) : List GClash := nwlK base s s.lives.length
@[simp] def h136 : Hts := { merge := fun _ => false, mergeF := fun _ => false }
set_option maxHeartbeats 2000000 in
theorem f136_ok (base s : GState) (hb : base.know.length ≤ 1073741824) (ha : s.lives.length ≤ 1073741824) : FnR Tryz.prog 136 [.agg [.im base.know.length (flat base.know), .im base.tallies.length (flat base.tallies), .im base.lives.length (flat base.lives), .im base.cs.length (flat base.cs)], .agg [.im s.know.length (flat s.know), .im s.tallies.length (flat s.tallies), .im s.lives.length (flat s.lives), .im s.cs.length (flat s.cs)]] (.v (.ow 48 2 (newIn base s).length (flat (newIn base s)))) := by
  refine FnW.of_AW TryzT_ok 0 (fn := Tryz.f136) (by kernel_rfl) rfl (by kernel_rfl) rfl rfl rfl ?_; refine AW_of h136 TryzT_ok (by kernel_rfl) ?_
  simp -dsimp
  refine AWh_loop (fun i : Nat => i ≤ s.lives.length) (fun i => mkE [(2, .box 128 0), (5, .arr 320), (10, .c (.im s.lives.length (flat s.lives))), (11, .c (.int .i64 s.lives.length)), (12, .c (.int .i64 i))] [(128, .box [.c (.im base.know.length (flat base.know)), .c (.im base.tallies.length (flat base.tallies)), .c (.im base.lives.length (flat base.lives)), .c (.im base.cs.length (flat base.cs))]), (320, .arr 0 48 2 (nwlK base s i).length (flat (nwlK base s i)))]) (fun i => s.lives.length - i) 0 (Wk_to [2, 5, 10, 11, 12] [(128, 128), (320, 512)] rfl rfl (by simp [nwlK])) (by simp) ?_
  rintro i hi
  have hl := nwlK_len base s i
  refine AW_of h136 TryzT_ok (by kernel_rfl) ?_
  rcases Nat.lt_or_ge i s.lives.length with h1 | h1
  · cases g : (nth s.lives i).map
    · have hs : nwlK base s (i + 1) = nwlK base s i := by simp [nwlK, g]
      simp -dsimp [h1, ne_of_lt h1, g]
      repeat (first | refine ⟨by omega, ?_⟩ | refine ⟨by simp [capMax]; omega, ?_⟩ | refine ⟨⟨by omega, by omega⟩, ?_⟩)
      exact Back_of (i + 1) [2, 5, 10, 11, 12] [(128, 128), (320, 320)] rfl rfl (by simp [hs]; rw [wrap64 (by omega) (by omega)]) (by omega) (by omega)
    · simp -dsimp [h1, ne_of_lt h1, g]
      repeat (first | refine ⟨by omega, ?_⟩ | refine ⟨by simp [capMax]; omega, ?_⟩ | refine ⟨⟨by omega, by omega⟩, ?_⟩)
      refine ACallK_of (f125_ok _ _ hb) ?_
      cases g2 : knows base.know (nth s.lives i).dot
      · have hs : nwlK base s (i + 1) = nwlK base s i ++ [⟨(nth s.lives i).obj, (nth s.lives i).key⟩] := by simp [nwlK, g, g2]
        simp -dsimp
        repeat (first | refine ⟨by omega, ?_⟩ | refine ⟨by simp [capMax]; omega, ?_⟩ | refine ⟨⟨by omega, by omega⟩, ?_⟩)
        exact Back_of (i + 1) [2, 5, 10, 11, 12] [(128, 128), (320, 2112)] rfl rfl (by simp [hs]; rw [wrap64 (by omega) (by omega)]) (by omega) (by omega)
      · have hs : nwlK base s (i + 1) = nwlK base s i := by simp [nwlK, g, g2]
        simp -dsimp
        exact Back_of (i + 1) [2, 5, 10, 11, 12] [(128, 128), (320, 320)] rfl rfl (by simp [hs]; rw [wrap64 (by omega) (by omega)]) (by omega) (by omega)
  · obtain rfl : i = s.lives.length := by omega
    simp -dsimp
    simp [newIn]

def isNew (base s : GState) (o k : ByteArray) : Bool := !allB (fun j => knows base.know (nth (livesOf s true o k) j).dot) (livesOf s true o k).length
@[simp] def h145 : Hts := { merge := fun _ => false, mergeF := fun _ => false, dr := fun id => if id = 5 then [{}, {}, {}, {}, {}, {}, {}, { cr := true }, {}] else [] }
set_option maxHeartbeats 2000000 in
theorem f145_ok (base s : GState) (o k : ByteArray) (hb : base.know.length ≤ 1073741824) (ha : s.lives.length ≤ 1073741824) : FnR Tryz.prog 145 [.agg [.im base.know.length (flat base.know), .im base.tallies.length (flat base.tallies), .im base.lives.length (flat base.lives), .im base.cs.length (flat base.cs)], .agg [.im s.know.length (flat s.know), .im s.tallies.length (flat s.tallies), .im s.lives.length (flat s.lives), .im s.cs.length (flat s.cs)], .v (.str o), .v (.str k)] (.v (.bool (isNew base s o k))) := by
  have hll := livesOf_len s true o k
  refine FnW.of_AW TryzT_ok 0 (fn := Tryz.f145) (by kernel_rfl) rfl (by kernel_rfl) rfl rfl rfl ?_; refine AW_of h145 TryzT_ok (by kernel_rfl) ?_
  simp -dsimp
  refine ACallK_of (f39_ok _ _ _ _ ha) ?_
  simp -dsimp
  refine AWh_loop (fun i : Nat => i ≤ (livesOf s true o k).length ∧ allB (fun j => knows base.know (nth (livesOf s true o k) j).dot) i = true) (fun i => mkE [(4, .box 256 0), (9, .arr 896), (10, .c (.int .i64 i))] [(256, .box [.c (.im base.know.length (flat base.know)), .c (.im base.tallies.length (flat base.tallies)), .c (.im base.lives.length (flat base.lives)), .c (.im base.cs.length (flat base.cs))]), (896, .arr 0 159 6 (livesOf s true o k).length (flat (livesOf s true o k)))]) (fun i => (livesOf s true o k).length - i) 0 (Wk_to [4, 9, 10] [(256, 256), (896, 896)] rfl rfl (by simp)) (by simp [allB]) ?_
  rintro i ⟨hi, hall⟩
  refine AW_of h145 TryzT_ok (by kernel_rfl) ?_
  rcases Nat.lt_or_ge i (livesOf s true o k).length with h1 | h1
  · simp -dsimp [h1, ne_of_lt h1]
    repeat (first | refine ⟨by omega, ?_⟩ | refine ⟨by simp [capMax]; omega, ?_⟩ | refine ⟨⟨by omega, by omega⟩, ?_⟩)
    refine ACallK_of (f17_ok _ _ hb) ?_
    cases g : knows base.know (nth (livesOf s true o k) i).dot
    · simp -dsimp
      simp [isNew, allB_false (p := fun j => knows base.know (nth (livesOf s true o k) j).dot) h1 g]
    · simp -dsimp
      exact Back_of (i + 1) [4, 9, 10] [(256, 256), (896, 896)] rfl rfl (by simp; rw [wrap64 (by omega) (by omega)]) ⟨by omega, allB_succ hall g⟩ (by omega)
  · obtain rfl : i = (livesOf s true o k).length := by omega
    simp -dsimp
    simp [isNew, hall]
end Am
